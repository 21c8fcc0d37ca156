/- A small code type with partial frames, its weakest preconditions, for walks by 'simp only'. -/
import Derived.WalkKit
import Derived.Orders
import Derived.OrdersIn
import Derived.TacticsIn
import Derived.RangeFuncIn
import Derived.RowKit3
import Derived.Laws.AppendOwnNone
import Derived.Lib.AppendStr
import Derived.Maps.AppendAt
import Derived.Maps.Keyed
import Derived.MapViews
set_option linter.unusedVariables false
set_option linter.unusedSimpArgs false
section
namespace Go.Sl
/-! ### Ak: what is known of the Ae -/
abbrev Env := List (Nat × Value)
def AU : Env → Nat → Option Value
 | [], _ => none
 | p :: e, n => match Nat.beq p.1 n with
  | true => some p.2
  | false => AU e n
def GK : Env → Nat → Value → Env
 | [], n, v => [(n, v)]
 | p :: e, n, v => match Nat.beq p.1 n with
  | true => (n, v) :: e
  | false => p :: GK e n v
theorem IR (p : Nat × Value) (e : Env) (n : Nat) : AU (p :: e) n = if p.1 = n then some p.2 else AU e n := by
 simp only [AU]
 cases h : Nat.beq p.1 n
 ·rw [if_neg (Nat.ne_of_beq_eq_false h)]
 ·rw [if_pos (Nat.eq_of_beq_eq_true h)]
theorem AbB (p : Nat × Value) (e : Env) (n : Nat) (v : Value) : GK (p :: e) n v = if p.1 = n then (n, v) :: e else p :: GK e n v := by
 simp only [GK]
 cases h : Nat.beq p.1 n
 ·rw [if_neg (Nat.ne_of_beq_eq_false h)]
 ·rw [if_pos (Nat.eq_of_beq_eq_true h)]
def Jp : List Nat → Env → Env
 | [], _ => []
 | n :: l, e => match AU e n with
  | some v => (n, v) :: Jp l e
  | none => Jp l e
def ev (e : Env) : Operand → Option Value
 | .tmp t => AU e t
 | .const v => some v
 | .global g => some (.pointer (some ⟨g, 0, none⟩))
 | .func f => some (.func (.func f) #[] #[])
def evs (e : Env) : List Operand → Option (List Value)
 | [] => some []
 | x :: l => match ev e x, evs e l with
  | some v, some vs => some (v :: vs)
  | _, _ => none

/-! ### stops: what the walk's simp does not look behind -/
inductive Tag : Prop → Type | mk (K : Prop) : Tag K
inductive A7 {α : Sort _} : α → Type _ | mk (K : α) : A7 K
def Chk (p K : Prop) (_ : Tag K) : Prop := p ∧ K
def Br (b : Bool) (X Y : Prop) (_ : Tag X) (_ : Tag Y) : Prop := (b = true → X) ∧ (b = false → Y)
def Ld (c : Option Value) (K : Value → Prop) (_ : A7 K) : Prop := ∃ v, c = some v ∧ K v
def Ldn (w : World) (a : Addr) (n : Nat) (K : Value → Prop) (_ : A7 K) : Prop :=
 ∃ vs : List Value, vs.length = n ∧ (∀ j u, vs[j]? = some u → w.cell? (a.add j) = some u) ∧ K (.agg vs.toArray)
def LdB (w : World) (a : Option Addr) (n : Nat) (K : ByteArray → Prop) (_ : A7 K) : Prop :=
 ∃ l : List UInt8, l.length = n ∧ (∀ j b, l[j]? = some b → ∃ ad, a = some ad ∧ w.cell? (ad.add j) = some (.int .u8 b.toNat)) ∧ K ⟨l.toArray⟩
def Stn (w : World) (a : Addr) (vs : List Value) (K : World → Prop) (_ : A7 K) : Prop :=
 ∃ w', (∀ P, (storeCells a vs).run P w = .ok () w') ∧ K w'
def New (w : World) (o : Obj) (K : Nat → World → Prop) (_ : A7 K) : Prop := K w.heap.size (w.alloc o)
def Run (P : Program) (s : Sem Value) (w : World) (K : Value → World → Prop) (_ : A7 K) : Prop :=
 ∃ v w', s.run P w = .ok v w' ∧ K v w'
def BZ (P : Program) (s : Sem Next) (w : World) (K : World → Prop) (_ : A7 K) : Prop :=
 ∃ w', s.run P w = .ok .skip w' ∧ K w'
def Call (P : Program) (f : FuncId) (args : Array Value) (w : World) (K : Value → World → Prop) (_ : A7 K) : Prop :=
 Calls P f args w fun e w' => ∃ v, e = .returned v ∧ K v w'
def BQ (P : Program) (s : Sem Next) (w : World) (K : Value → World → Prop) (_ : A7 K) : Prop :=
 (∃ v w', s.run P w = .ok (.value v) w' ∧ K v w') ∨
 (∃ f args w', s.run P w = .ok (.enter f args) w' ∧ Calls P f args w' fun e w' => ∃ v, e = .returned v ∧ K v w')

/-! ### operations that look at no memory -/
inductive NK where | sl | pt | mp | fn | fc
inductive PF where
 | mv
 | bin (op : BinOp)                      -- whole numbers, strings
 | binb (op : BinOp)
 | not | neg | compl
 | conv (k : IntKind)
 | cvs                                   -- a string as a string
 | ext (i : Nat)
 | fld (off size : Nat) (agg : Bool)
 | fad (off : Nat)
 | ixs (size : Nat)
 | ixa (len size : Nat)
 | ixv (len size : Nat) (agg : Bool)
 | ixb
 | sls (size : Nat) (lo hi mx : Bool)
 | slt (lo hi : Bool)
 | sla (len size : Nat) (lo hi : Bool)
 | len | lens | lenc (n : Nat) | cap
 | max | min
 | fn (f : Fn) (k : Nat)
 | ifc (t : TypeId)
 | pick
 | nilc
 | isnil (k : NK) (neg : Bool)           -- a slice, a pointer, a map, a function, held against nil (either side)
 | build (zero : List Value) (places : List (Nat × Nat))

def GH (op : BinOp) (k : IntKind) (a b : Int) : Option (Prop × Value) :=
 match op with
 | .add => some (True, .int k (k.wrap (a + b)))
 | .sub => some (True, .int k (k.wrap (a - b)))
 | .mul => some (True, .int k (k.wrap (a * b)))
 | .quo => some (b ≠ 0, .int k (k.wrap (a.tdiv b)))
 | .rem => some (b ≠ 0, .int k (a.tmod b))
 | .and => some (True, .int k (k.wrap (BitVec.ofInt k.bits a &&& BitVec.ofInt k.bits b).toNat))
 | .or => some (True, .int k (k.wrap (BitVec.ofInt k.bits a ||| BitVec.ofInt k.bits b).toNat))
 | .xor => some (True, .int k (k.wrap (BitVec.ofInt k.bits a ^^^ BitVec.ofInt k.bits b).toNat))
 | .andNot => some (True, .int k (k.wrap (BitVec.ofInt k.bits a &&& ~~~ BitVec.ofInt k.bits b).toNat))
 | .eql => some (True, .bool (decide (a = b)))
 | .neq => some (True, .bool (!decide (a = b)))
 | .lss => some (True, .bool (decide (a < b)))
 | .leq => some (True, .bool (decide (a ≤ b)))
 | .gtr => some (True, .bool (decide (b < a)))
 | .geq => some (True, .bool (decide (b ≤ a)))
 | .shl => none
 | .shr => none
def slt (x y : ByteArray) : Bool := Op.bytesLess x.toList y.toList
def GV (op : BinOp) (x y : ByteArray) : Option (Prop × Value) :=
 match op with
 | .add => some (((x.size + y.size : Nat) : Int) ≤ 9223372036854775807, .string (x ++ y))
 | .eql => some (True, .bool (decide (x = y)))
 | .neq => some (True, .bool (!decide (x = y)))
 | .lss => some (True, .bool (slt x y))
 | .leq => some (True, .bool (slt x y || decide (x = y)))
 | .gtr => some (True, .bool (!(slt x y || decide (x = y))))
 | .geq => some (True, .bool (!slt x y))
 | _ => none
def FV (op : BinOp) : Value → Value → Option (Prop × Value)
 | .int k a, .int k' b =>
  match op with
  | .shl => some (0 ≤ b, .int k (k.wrap (a * 2 ^ (Nat.min b.toNat k.bits))))
  | .shr => some (0 ≤ b, .int k (a.fdiv (2 ^ (Nat.min b.toNat k.bits))))
  | _ => if k = k' then GH op k a b else none
 | .string a, .string b => GV op a b
 | _, _ => none
def D5 (op : BinOp) : Value → Value → Option (Prop × Value)
 | .bool a, .bool b =>
  match op with
  | .eql => some (True, .bool (a == b))
  | .neq => some (True, .bool (!(a == b)))
  | _ => none
 | _, _ => none
def EF : List Value → Nat → List Value → List Value
 | zero, _, [] => zero
 | zero, off, c :: cs => EF (zero.set off c) (off + 1) cs
def II : List (Nat × Nat) → List Value → List Value → Option (List Value)
 | [], [], cells => some cells
 | (off, size) :: ps, v :: vs, cells =>
  if v.cells.size = size ∧ off + size ≤ cells.length then II ps vs (EF cells off v.cells.toList) else none
 | _, _, _ => none
def Eb : NK → Value → Option Bool
 | .sl, .slice none _ _ => some true
 | .sl, .slice (some _) _ _ => some false
 | .pt, .pointer none => some true
 | .pt, .pointer (some _) => some false
 | .mp, .map none => some true
 | .mp, .map (some _) => some false
 | .fn, .nilFunc => some true
 | .fn, .func _ _ _ => some false
 | .fc, .nilIface => some true
 | .fc, .iface _ _ => some false
 | _, _ => none
def psl (base : Option Addr) (cap size : Nat) (lo hi mx : Int) : Option (Prop × Value) :=
 some ((0 ≤ lo ∧ lo ≤ hi) ∧ (hi ≤ mx ∧ mx ≤ cap),
  .slice (if mx = lo then base else base.map (·.add (lo.toNat * size))) (hi.toNat - lo.toNat) (mx.toNat - lo.toNat))

def pev : PF → List Value → Option (Prop × Value)
 | .mv, [v] => some (True, v)
 | .bin op, [x, y] => FV op x y
 | .binb op, [x, y] => D5 op x y
 | .not, [.bool b] => some (True, .bool (!b))
 | .neg, [.int k n] => some (True, .int k (k.wrap (0 - n)))
 | .compl, [.int k n] => some (True, .int k (k.wrap (BitVec.ofInt k.bits (if k.signed then -1 else k.max) ^^^ BitVec.ofInt k.bits n).toNat))
 | .conv k, [.int _ n] => some (True, .int k (k.wrap n))
 | .cvs, [.string s] => some (True, .string s)
 | .ext i, [.tuple vs] => match vs[i]? with
  | some v => some (True, v)
  | none => none
 | .fld off size true, [.agg cs] => some (True, .agg (cs.extract off (off + size)))
 | .fld off _ false, [.agg cs] => match cs[off]? with
  | some v => some (True, v)
  | none => none
 | .fad off, [.pointer (some a)] => some (True, .pointer (some (a.add off)))
 | .ixs size, [.slice (some a) n _, .int _ i] => some (0 ≤ i ∧ i < n, .pointer (some (a.add (i.toNat * size))))
 | .ixs _, [.slice none _ _, .int _ i] => some (False, .pointer none)
 | .ixa n size, [.pointer (some a), .int _ i] => some (0 ≤ i ∧ i < n, .pointer (some (a.add (i.toNat * size))))
 | .ixv n size true, [.agg cs, .int _ i] => some (0 ≤ i ∧ i < n, .agg (cs.extract (i.toNat * size) (i.toNat * size + size)))
 | .ixv n size false, [.agg cs, .int _ i] => some ((0 ≤ i ∧ i < n) ∧ i.toNat * size < cs.size, (cs[i.toNat * size]?).getD undef)
 | .ixb, [.string s, .int _ i] => some (0 ≤ i ∧ i < s.size, .int .u8 ((s[i.toNat]?).getD 0).toNat)
 | .sls size false false false, [.slice a n c] => psl a c size 0 n c
 | .sls size true false false, [.slice a n c, .int _ l] => psl a c size l n c
 | .sls size false true false, [.slice a n c, .int _ h] => psl a c size 0 h c
 | .sls size true true false, [.slice a n c, .int _ l, .int _ h] => psl a c size l h c
 | .sls size false true true, [.slice a n c, .int _ h, .int _ m] => psl a c size 0 h m
 | .sls size true true true, [.slice a n c, .int _ l, .int _ h, .int _ m] => psl a c size l h m
 | .slt false false, [.string s] => some (True, .string (s.extract 0 s.size))
 | .slt true false, [.string s, .int _ l] => some (0 ≤ l ∧ l ≤ s.size, .string (s.extract l.toNat s.size))
 | .slt false true, [.string s, .int _ h] => some (0 ≤ h ∧ h ≤ s.size, .string (s.extract 0 h.toNat))
 | .slt true true, [.string s, .int _ l, .int _ h] => some ((0 ≤ l ∧ l ≤ h) ∧ h ≤ s.size, .string (s.extract l.toNat h.toNat))
 | .sla n size false false, [.pointer (some a)] => psl (some a) n size 0 n n
 | .sla n size true false, [.pointer (some a), .int _ l] => psl (some a) n size l n n
 | .sla n size false true, [.pointer (some a), .int _ h] => psl (some a) n size 0 h n
 | .sla n size true true, [.pointer (some a), .int _ l, .int _ h] => psl (some a) n size l h n
 | .len, [.slice _ n _] => some (True, .int .i64 n)
 | .lens, [.string s] => some (True, .int .i64 s.size)
 | .lenc n, [_] => some (True, .int .i64 n)
 | .cap, [.slice _ _ c] => some (True, .int .i64 c)
 | .max, [.int k a, .int _ b] => some (True, .int k (max a b))
 | .max, [.int k a, .int _ b, .int _ c] => some (True, .int k (max (max a b) c))
 | .min, [.int k a, .int _ b] => some (True, .int k (min a b))
 | .fn f k, vs => some (True, .func f (vs.take k).toArray (vs.drop k).toArray)
 | .ifc t, [v] => some (True, .iface t v)
 | .pick, [.bool c, a, b] => some (True, if c then a else b)
 | .nilc, [.pointer (some a)] => some (True, .pointer (some a))
 | .nilc, [.func (.func f) x y] => some (True, .func (.func f) x y)
 | .nilc, [.iface t v] => some (True, .iface t v)
 | .isnil k neg, [v] => match Eb k v with
  | some b => some (True, .bool (b != neg))
  | none => none
 | .build zero places, vs => match II places vs zero with
  | some cs => some (True, .agg cs.toArray)
  | none => none
 | _, _ => none

/-! ### operations -/
inductive MOp where
 | p (d : Nat) (f : PF) (xs : List Operand)
 | ld (d : Nat) (x : Operand)
 | ldn (d : Nat) (n : Nat) (x : Operand)
 | bs (d : Nat) (x : Operand)                              -- bytes as a string
 | st (n : Nat) (agg : Bool) (x v : Operand)
 | new (d : Nat) (t : TypeId) (zero : List Value)          -- alloc
 | box (d : Nat) (t : TypeId) (v : Operand)
 | bsl (d : Nat) (t : TypeId) (len : Nat) (zero : List Value) (places : List (Nat × Nat)) (vs : List Operand)
 | app (d : Nat) (ats : Array TypeId) (ty : TypeId) (s x : Operand)
 | call (d : Option Nat) (f : FuncId) (xs : List Operand)
 | callv (d : Option Nat) (f : Operand) (xs : List Operand)
 | gen (d : Option Nat) (o : Oper)                         -- a value, or a call: as the model has it
 | genu (o : Oper)                                         -- nothing comes of it
 | gd (g : Nat) (want : Bool) (d : Option Nat) (o : MOp)   -- if slot g holds 'want'

def rho (e : Env) (x : Operand) : Value := (ev e x).getD undef
def known (e : Env) : List Operand → Bool
 | [] => true
 | x :: l => (ev e x).isSome && known e l
def TN (e : Env) : Option Nat → Value → Env
 | some d, v => GK e d v
 | none, _ => e
def LJ (P : Program) (f : FuncId) : Bool :=
 match P.funcs[f]? with
 | some fn => fn.body.isSome && !(fn.name == "runtime.NumGoroutine")
 | none => false

def MOp.wp (P : Program) : MOp → Env → World → (Env → World → Prop) → Prop
 | .p d f xs, e, w, K => match evs e xs with
  | some vs => match pev f vs with
   | some (c, v) => Chk c (K (GK e d v) w) (.mk _)
   | none => False
  | none => False
 | .ld d x, e, w, K => match ev e x with
  | some (.pointer (some a)) => Ld (w.cell? a) (fun v => K (GK e d v) w) (.mk _)
  | _ => False
 | .ldn d n x, e, w, K => match ev e x with
  | some (.pointer (some a)) => Ldn w a n (fun v => K (GK e d v) w) (.mk _)
  | _ => False
 | .bs d x, e, w, K => match ev e x with
  | some (.slice a n _) => LdB w a n (fun s => K (GK e d (.string s)) w) (.mk _)
  | _ => False
 | .st n agg x v, e, w, K => match ev e x, ev e v with
  | some (.pointer (some a)), some v => match agg, v with
   | true, .agg cs => Chk (cs.size = n) (Stn w a cs.toList (fun w' => K e w') (.mk _)) (.mk _)
   | true, _ => False
   | false, v => Chk (v.oneCell' = true) (Stn w a [v] (fun w' => K e w') (.mk _)) (.mk _)
  | _, _ => False
 | .new d t zero, e, w, K => New w (.cells zero.toArray t) (fun b w' => K (GK e d (.pointer (some ⟨b, 0, none⟩))) w') (.mk _)
 | .box d t v, e, w, K => match ev e v with
  | some v => New w (.cells v.cells t) (fun b w' => K (GK e d (.pointer (some ⟨b, 0, none⟩))) w') (.mk _)
  | none => False
 | .bsl d t len zero places vs, e, w, K => match evs e vs with
  | some vs => match II places vs zero with
   | some cs => New w (.cells cs.toArray t) (fun b w' => K (GK e d (.slice (some ⟨b, 0, none⟩) len len)) w') (.mk _)
   | none => False
  | none => False
 | .app d ats ty s x, e, w, K => match ev e s, ev e x with
  | some s, some x => Run P (Builtin.append_ ats ty #[s, x]) w (fun v w' => K (GK e d v) w') (.mk _)
  | _, _ => False
 | .call d f xs, e, w, K => match evs e xs with
  | some vs => Call P f vs.toArray w (fun v w' => K (TN e d v) w') (.mk _)
  | none => False
 | .callv d f xs, e, w, K => match ev e f, evs e xs with
  | some (.func (.func f) first captured), some vs =>
   Chk (LJ P f = true) (Call P f (first ++ vs.toArray ++ captured) w (fun v w' => K (TN e d v) w') (.mk _)) (.mk _)
  | _, _ => False
 | .gen d o, e, w, K => if known e o.op.operands.toList then BQ P (execOp (rho e) o) w (fun v w' => K (TN e d v) w') (.mk _) else False
 | .genu o, e, w, K => if known e o.op.operands.toList then BZ P (execOp (rho e) o) w (fun w' => K e w') (.mk _) else False
 | .gd g want d o, e, w, K => match AU e g with
  | some (.bool b) => Br (b == want) (o.wp P e w K) (match d with | some d => K (GK e d undef) w | none => K e w) (.mk _) (.mk _)
  | some (.tuple _) => match d with | some d => K (GK e d undef) w | none => K e w
  | _ => False

def Tz (P : Program) : List MOp → Env → World → (Env → World → Prop) → Prop
 | [], e, w, K => K e w
 | o :: l, e, w, K => o.wp P e w (fun e w => Tz P l e w K)

/-! ### regions that draw their order: one schedule; what a load that was taken early has read is held again behind each act that may come ahead of it -/
def MOp.still : MOp → Env → World → Prop
 | .ld d x, e, w => match ev e x, AU e d with
  | some (.pointer (some a)), some v => w.cell? a = some v
  | _, _ => False
 | .ldn d _ x, e, w => match ev e x, AU e d with
  | some (.pointer (some a)), some (.agg cs) => ∀ j u, cs[j]? = some u → w.cell? (a.add j) = some u
  | _, _ => False
 | .bs d x, e, w => match ev e x, AU e d with
  | some (.slice a _ _), some (.string s) => ∀ j b, s.data[j]? = some b → ∃ ad, a = some ad ∧ w.cell? (ad.add j) = some (.int .u8 b.toNat)
  | _, _ => False
 | .gd g want _ o, e, w => match AU e g with
  | some (.bool b) => (b == want) = true → o.still e w
  | some (.tuple _) => True
  | _ => False
 | _, _, _ => True
def JI : List MOp → Env → World → Prop
 | [], _, _ => True
 | m :: l, e, w => m.still e w ∧ JI l e w
structure DS where
 m : MOp
 chk : List MOp
inductive DT where
 | nil
 | one (s : DS) (t : DT)
 | alt (s : DS) (t : DT) (s' : DS) (t' : DT)
def Alt (X Y : Prop) (_ : Tag X) (_ : Tag Y) : Prop := X ∧ Y
def KX (P : Program) : DT → Env → World → (Env → World → Prop) → Prop
 | .nil, e, w, K => K e w
 | .one s l, e, w, K => s.m.wp P e w (fun e' w' => match s.chk with
  | [] => KX P l e' w' K
  | m :: c => Chk (JI (m :: c) e' w') (KX P l e' w' K) (.mk _))
 | .alt s l s' l', e, w, K => Alt (s.m.wp P e w (fun e' w' => match s.chk with
  | [] => KX P l e' w' K
  | m :: c => Chk (JI (m :: c) e' w') (KX P l e' w' K) (.mk _))) (s'.m.wp P e w (fun e' w' => match s'.chk with
  | [] => KX P l' e' w' K
  | m :: c => Chk (JI (m :: c) e' w') (KX P l' e' w' K) (.mk _))) (.mk _) (.mk _)

/-! ### code -/
inductive MC where
 | skip
 | ops (l : List MOp)
 | dr (l : DT)
 | seq (a b : MC)
 | cond (c : Operand) (t f : MC)
 | block (id : Nat) (b : MC)
 | loop (b : MC)
 | exit (id : Nat)
 | ret
 | raw (n : Nat) (c : Code)

structure Sim (n : Nat) (e : Env) (a : Act) : Prop where
 size : a.tmps.size = n
 defers : a.defers = []
 val : ∀ t v, AU e t = some v → a.tmps[t]? = some v

def thenQ (K : Env → World → Prop) (Q : Exit → Env → World → Prop) : Exit → Env → World → Prop
 | .normal, e, w => K e w
 | x, e, w => Q x e w
def W9 (id : Nat) (Q : Exit → Env → World → Prop) : Exit → Env → World → Prop
 | .exit i, e, w => match Nat.beq i id with
  | true => Q .normal e w
  | false => Q (.exit i) e w
 | x, e, w => Q x e w

def Bc (B : (Exit → Env → World → Prop) → Env → World → Prop) (Q : Exit → Env → World → Prop) (e : Env) (w : World) (_ : A7 B) (_ : A7 Q) : Prop :=
 ∃ (live : List Nat) (I : Env → World → Prop) (μ : Env → World → Nat), I (Jp live e) w ∧
   ∀ e w, I e w → B (thenQ (fun e' w' => I (Jp live e') w' ∧ μ (Jp live e') w' < μ e w) Q) e w
def Cb (P : Program) (n : Nat) (c : Code) (Q : Exit → Env → World → Prop) (e : Env) (w : World) (_ : A7 c) (_ : A7 Q) : Prop :=
 ∀ a, Sim n e a → c.wp P (fun x a' w' => ∃ e', Sim n e' a' ∧ Q x e' w') a w
def MC.wp (P : Program) : MC → (Exit → Env → World → Prop) → Env → World → Prop
 | .skip, Q, e, w => Q .normal e w
 | .ops l, Q, e, w => Tz P l e w (fun e w => Q .normal e w)
 | .dr l, Q, e, w => KX P l e w.drew (fun e w => Q .normal e w)
 | .seq a b, Q, e, w => a.wp P (thenQ (fun e w => b.wp P Q e w) Q) e w
 | .cond c t f, Q, e, w => match ev e c with
  | some (.bool b) => Br b (t.wp P Q e w) (f.wp P Q e w) (.mk _) (.mk _)
  | _ => False
 | .block id b, Q, e, w => b.wp P (W9 id Q) e w
 | .loop b, Q, e, w => Bc (fun Q e w => b.wp P Q e w) Q e w (.mk _) (.mk _)
 | .exit id, Q, e, w => Q (.exit id) e w
 | .ret, Q, e, w => Q .ret e w
 | .raw n c, Q, e, w => Cb P n c Q e w (.mk _) (.mk _)

/-! ### whole functions -/
inductive RV where
 | t (t : Nat)
 | c (t : Nat)
 | cn (t n : Nat)
def HY : List RV → Env → World → (List Value → Prop) → Prop
 | [], e, w, K => K []
 | .t t :: l, e, w, K => match AU e t with
  | some v => HY l e w (fun vs => K (v :: vs))
  | none => False
 | .c t :: l, e, w, K => match AU e t with
  | some (.pointer (some a)) => Ld (w.cell? a) (fun v => HY l e w (fun vs => K (v :: vs))) (.mk _)
  | _ => False
 | .cn t n :: l, e, w, K => match AU e t with
  | some (.pointer (some a)) => Ldn w a n (fun v => HY l e w (fun vs => K (v :: vs))) (.mk _)
  | _ => False
def Y1 : List Value → Value
 | [v] => v
 | vs => .tuple vs.toArray
def retQ (res : List RV) (K : Value → World → Prop) : Exit → Env → World → Prop
 | .normal, e, w => HY res e w (fun vs => K (Y1 vs) w)
 | .ret, e, w => HY res e w (fun vs => K (Y1 vs) w)
 | _, _, _ => False
structure MF where
 n : Nat
 res : List RV
 body : MC
def NQ : Nat → List Value → Env
 | _, [] => []
 | i, v :: vs => (i, v) :: NQ (i + 1) vs

def Bh (P : Program) (t : TypeId) : Option Nat := (P.info? t).map (·.size)
def zeroAt (P : Program) (t : TypeId) : Option (List Value) := ((P.info? t).bind (·.zero)).map (·.cells.toList)
def Jq (P : Program) (t : TypeId) : Option Bool := (P.underlying t).map fun
 | .struct _ | .array _ _ => true
 | _ => false
def Ih : Operand → Bool
 | .const .nilIface => true
 | _ => false
def Ku (k : NK) : Operand → Bool
 | .const v => Eb k v == some true
 | _ => false
def nkOf : TypeDesc → Option NK
 | .slice _ => some .sl
 | .pointer _ => some .pt
 | .map _ _ => some .mp
 | .func _ _ _ => some .fn
 | .interface _ => some .fc
 | _ => none
def placesOf (P : Program) (fs : Array Field) : List Nat → Option (List (Nat × Nat))
 | [] => some []
 | i :: l => match fs[i]?, placesOf P fs l with
  | some f, some ps => (Bh P f.type).map fun s => (f.offset, s) :: ps
  | _, _ => none
def Oz (P : Program) (fs : Array Field) : Bool := fs.all fun f => (Bh P f.type).isSome

def Xo (P : Program) (op : BinOp) (t : TypeId) (x y : Operand) : Option (PF × List Operand) :=
 match P.underlying t with
 | some (.int _) | some .string => some (.bin op, [x, y])
 | some .bool => some (.binb op, [x, y])
 | some d => match nkOf d with
  | none => none
  | some k =>
   match op with
   | .eql => if Ku k y then some (.isnil k false, [x]) else if Ku k x then some (.isnil k false, [y]) else none
   | .neq => if Ku k y then some (.isnil k true, [x]) else if Ku k x then some (.isnil k true, [y]) else none
   | _ => none
 | none => none

def Y2 (P : Program) (op : Op) : Option (PF × List Operand) :=
 match op with
 | .move x | .assign x => some (.mv, [x])
 | .unOp .not _ x => some (.not, [x])
 | .unOp .neg _ x => some (.neg, [x])
 | .unOp .xor _ x => some (.compl, [x])
 | .convert src dst x => match P.underlying src, P.underlying dst with
  | some (.int _), some (.int k) => some (.conv k, [x])
  | some .string, some .string => some (.cvs, [x])
  | _, _ => none
 | .extract x i => some (.ext i, [x])
 | .field t x f => match P.underlying t with
  | some (.struct fs) => match fs[f]? with
   | some f => match Bh P f.type, Jq P f.type with
    | some s, some b => some (.fld f.offset s b, [x])
    | _, _ => none
   | none => none
  | _ => none
 | .fieldAddr t x f => match P.underlying t with
  | some (.struct fs) => match fs[f]? with
   | some f => match Bh P f.type with
    | some (s + 1) => some (.fad f.offset, [x])
    | _ => none
   | none => none
  | _ => none
 | .indexAddr t x i => match P.underlying t with
  | some (.slice el) => (Bh P el).map fun s => (.ixs s, [x, i])
  | some (.array n el) => (Bh P el).map fun s => (.ixa n s, [x, i])
  | _ => none
 | .index t x i => match P.underlying t with
  | some (.array n el) => match Bh P el, Jq P el with
   | some s, some b => some (.ixv n s b, [x, i])
   | _, _ => none
  | some .string => some (.ixb, [x, i])
  | _ => none
 | .slice t x lo hi mx => match P.underlying t with
  | some (.slice el) => (Bh P el).map fun s => (.sls s lo.isSome hi.isSome mx.isSome, [x] ++ lo.toList ++ hi.toList ++ mx.toList)
  | some .string => if mx.isSome then none else some (.slt lo.isSome hi.isSome, [x] ++ lo.toList ++ hi.toList)
  | some (.array n el) => if mx.isSome then none else (Bh P el).map fun s => (.sla n s lo.isSome hi.isSome, [x] ++ lo.toList ++ hi.toList)
  | _ => none
 | .makeFunc f first captured => some (.fn f first.size, first.toList ++ captured.toList)
 | .makeInterface t x => match P.underlying t with
  | some (.interface _) => none
  | some _ => some (.ifc t, [x])
  | none => none
 | .pick c a b => some (.pick, [c, a, b])
 | .nilCheck x => some (.nilc, [x])
 | .build t parts => match P.underlying t, zeroAt P t with
  | some (.struct fs), some z => if Oz P fs then (placesOf P fs (parts.toList.map (·.1))).map fun ps => (.build z ps, parts.toList.map (·.2)) else none
  | some (.array _ el), some z => (Bh P el).map fun s => (.build z (parts.toList.map fun p => (p.1 * s, s)), parts.toList.map (·.2))
  | _, _ => none
 | .call { callee := .builtin .len, args, argTypes } => match args.toList, (argTypes[0]?).bind P.underlying with
  | [x], some (.slice _) => some (.len, [x])
  | [x], some .string => some (.lens, [x])
  | [x], some (.array n _) => some (.lenc n, [x])
  | [x], some (.pointer a) => match P.underlying a with
   | some (.array n _) => some (.lenc n, [x])
   | _ => none
  | _, _ => none
 | .call { callee := .builtin .cap, args, argTypes } => match args.toList, (argTypes[0]?).bind P.underlying with
  | [x], some (.slice _) => some (.cap, [x])
  | _, _ => none
 | .call { callee := .builtin .max, args, argTypes } => some (.max, args.toList)
 | .call { callee := .builtin .min, args, argTypes } => some (.min, args.toList)
 | .binOp op t x y _ => Xo P op t x y
 | _ => none

section
variable {P : Program}

theorem ZK (op : BinOp) (t : TypeId) (x y : Operand) (a b : Value) (w : World)
  (h1 : ∀ c d, a = .agg c → b = .agg d → False) (h2 : a = .nilIface → b = .nilIface → Ih x = true ∨ Ih y = true) :
  (eqGuard op t x y a b).run P w = .ok () w := by
 have key : ∀ s : Sem Unit, (match a, b with
  | .nilIface, .nilIface =>
   (if (x matches .const _) || (y matches .const _) then pure () else s : Sem Unit)
  | .agg _, .agg _ => s
  | _, _ => pure ()).run P w = .ok () w := by
  intro s
  split
  ·have := h2 rfl rfl
   rcases this with h | h
   ·cases x <;> simp_all [Ih]
   ·cases y <;> simp_all [Ih]
  ·exact (h1 _ _ rfl rfl).elim
  ·simp
 have base : ∀ s1 s2 : Sem Unit, (match a, b with
  | .nilIface, .nilIface =>
   (if (x matches .const _) || (y matches .const _) then pure () else s1 : Sem Unit)
  | .agg _, .agg _ => s2
  | _, _ => pure ()).run P w = .ok () w := by
  intro s1 s2
  split
  ·have := h2 rfl rfl
   rcases this with h | h
   ·cases x <;> simp_all [Ih]
   ·cases y <;> simp_all [Ih]
  ·exact (h1 _ _ rfl rfl).elim
  ·simp
 unfold eqGuard
 cases op <;> simp only [Bool.not_true, Bool.not_false, Bool.false_eq_true, if_true, if_false] <;> first | rfl | skip
 ·exact base _ _
 ·exact base _ _

theorem Zu {op : BinOp} {t : TypeId} {k : IntKind} {a b : Int} {c : Prop} {v : Value}
  (h : GH op k a b = some (c, v)) (hc : c) (w : World) : (binOp op t (.int k a) (.int k b)).run P w = .ok v w := by
 cases op <;> simp only [GH, Option.some.injEq, Prod.mk.injEq, reduceCtorEq] at h
 all_goals (obtain ⟨rfl, rfl⟩ := h)
 all_goals (simp only [binOp, ne_eq, not_true_eq_false, if_false, Op.intArith, Op.intDiv, Op.intBits, Op.intCmp, Sem.run_pure])
 all_goals (first | rfl | (rw [if_neg hc]; rfl) | skip)

theorem Ux (x y : ByteArray) : x.toList = y.toList ↔ x = y := by
 rw [ByteArray.toList_eq, ByteArray.toList_eq]
 constructor
 ·intro h
  cases x; cases y
  simp only [Array.toList_inj] at h
  rw [h]
 ·rintro rfl; rfl

theorem Zr {op : BinOp} {t : TypeId} {a b : ByteArray} {c : Prop} {v : Value}
  (h : GV op a b = some (c, v)) (hc : c) (w : World) : (binOp op t (.string a) (.string b)).run P w = .ok v w := by
 have e : (a.toList == b.toList) = decide (a = b) := by
  rw [Bool.eq_iff_iff]; simp [Ux]
 cases op <;> simp only [GV, Option.some.injEq, Prod.mk.injEq, reduceCtorEq] at h
 all_goals (obtain ⟨rfl, rfl⟩ := h)
 all_goals (simp only [binOp, Op.stringOp, e, slt, Sem.run_pure])
 all_goals (first | rfl | skip)
 have : ¬ (((a.size + b.size : Nat) : Int) > IntKind.i64.max) := by
  have : IntKind.i64.max = 9223372036854775807 := by decide
  omega
 rw [if_neg this]; rfl

theorem run_equalIn_bool {t : TypeId} (hd : P.underlying t = some .bool) (d : Nat) (a b : Bool) (w : World) :
  (Op.equalIn (d + 1) t (.bool a) (.bool b)).run P w = .ok (a == b) w := by
 simp [Op.equalIn, run_underlying hd]
theorem run_equal_bool {t : TypeId} (hd : P.underlying t = some .bool) (a b : Bool) (w : World) :
  (Op.equal t (.bool a) (.bool b)).run P w = .ok (a == b) w := run_equalIn_bool hd 9999 a b w

theorem Zx {op : BinOp} {t : TypeId} {x y : Value} {c : Prop} {v : Value}
  (h : FV op x y = some (c, v)) (hc : c) (w : World) : (binOp op t x y).run P w = .ok v w := by
 cases x <;> cases y <;> (try (simp only [FV, reduceCtorEq] at h; done))
 ·rename_i k a k' b
  by_cases h1 : op = .shl
  ·subst h1
   simp only [FV, Option.some.injEq, Prod.mk.injEq] at h
   obtain ⟨rfl, rfl⟩ := h
   have : ¬ b < 0 := by omega
   simp only [binOp, Op.shift, this, if_false]; rfl
  ·by_cases h2 : op = .shr
   ·subst h2
    simp only [FV, Option.some.injEq, Prod.mk.injEq] at h
    obtain ⟨rfl, rfl⟩ := h
    have : ¬ b < 0 := by omega
    simp only [binOp, Op.shift, this, if_false]; rfl
   ·have h3 : (if k = k' then GH op k a b else none) = some (c, v) := by
     cases op <;> first | exact h | exact absurd rfl h1 | exact absurd rfl h2
    split at h3
    ·rename_i hk
     subst hk
     exact Zu h3 hc w
    ·cases h3
 ·exact Zr h hc w
theorem XO {op : BinOp} {t : TypeId} {x y : Value} {c : Prop} {v : Value} (hd : P.underlying t = some .bool)
  (h : D5 op x y = some (c, v)) (hc : c) (w : World) : (binOp op t x y).run P w = .ok v w := by
 cases x <;> cases y <;> (try (simp only [D5, reduceCtorEq] at h; done))
 rename_i a b
 cases op <;> simp only [D5, Option.some.injEq, Prod.mk.injEq, reduceCtorEq] at h
 all_goals
  obtain ⟨rfl, rfl⟩ := h
  simp only [binOp, Sem.run_bind, run_equal_bool hd, Result.andThen_ok, Sem.run_pure]

theorem Oo {t : TypeId} {d : TypeDesc} {k : NK} (hd : P.underlying t = some d) (hk : nkOf d = some k) {x y : Value} {c : Bool}
  (hx : Eb k x = some c) (hy : Eb k y = some true) (w : World) :
  (Op.equal t x y).run P w = .ok c w ∧ (Op.equal t y x).run P w = .ok c w := by
 have key : ∀ n, (Op.equalIn (n + 1) t x y).run P w = .ok c w ∧ (Op.equalIn (n + 1) t y x).run P w = .ok c w := by
  intro n
  simp only [Op.equalIn, Sem.run_bind, run_underlying hd, Result.andThen_ok]
  cases d <;> simp only [nkOf, Option.some.injEq, reduceCtorEq] at hk
  all_goals (subst hk)
  ·cases x <;> cases y <;> simp only [Eb, reduceCtorEq] at hx hy
   rename_i a b
   cases a <;> cases b <;> simp only [Eb, Option.some.injEq, reduceCtorEq] at hx hy <;> (subst hx; exact ⟨rfl, rfl⟩)
  ·cases x <;> cases y <;> simp only [Eb, reduceCtorEq] at hx hy
   rename_i a _ _ b _ _
   cases a <;> cases b <;> simp only [Eb, Option.some.injEq, reduceCtorEq] at hx hy <;> (subst hx; exact ⟨rfl, rfl⟩)
  ·cases x <;> cases y <;> simp only [Eb, reduceCtorEq] at hx hy
   rename_i a b
   cases a <;> cases b <;> simp only [Eb, Option.some.injEq, reduceCtorEq] at hx hy <;> (subst hx; exact ⟨rfl, rfl⟩)
  ·cases x <;> cases y <;> simp only [Eb, Option.some.injEq, reduceCtorEq] at hx hy <;> (subst hx; exact ⟨rfl, rfl⟩)
  ·cases x <;> cases y <;> simp only [Eb, Option.some.injEq, reduceCtorEq] at hx hy <;> (subst hx; exact ⟨rfl, rfl⟩)
 exact key 9999

theorem run_sizeOf {t : TypeId} {n : Nat} (h : Bh P t = some n) (w : World) : (sizeOf t).run P w = .ok n w := by
 unfold Bh at h
 cases hi : P.info? t with
 | none => rw [hi] at h; cases h
 | some i => rw [hi] at h; simp only [Option.map_some, Option.some.injEq] at h; subst h; simp [sizeOf, typeInfo, hi]
theorem Lt {t : TypeId} {z : List Value} (h : zeroAt P t = some z) (w : World) : ∃ v, (zeroValue t).run P w = .ok v w ∧ v.cells.toList = z := by
 unfold zeroAt at h
 cases hi : P.info? t with
 | none => rw [hi] at h; cases h
 | some i =>
  rw [hi] at h
  cases hz : i.zero with
  | none => simp [hz] at h
  | some v => simp only [Option.bind_some, hz, Option.map_some, Option.some.injEq] at h; exact ⟨v, by simp [zeroValue, typeInfo, hi, hz], h⟩
theorem Fe {t : TypeId} {b : Bool} (h : Jq P t = some b) (w : World) : (isAgg t).run P w = .ok b w := by
 unfold Jq at h
 cases hd : P.underlying t with
 | none => rw [hd] at h; cases h
 | some d => rw [hd] at h; simp only [Option.map_some, Option.some.injEq] at h; subst h; simp only [isAgg, Sem.run_bind, run_underlying hd, Result.andThen_ok]; cases d <;> rfl
theorem Pq {t : TypeId} {n : Nat} (ha : Jq P t = some true) (hs : Bh P t = some n) (cs : Array Value) (off : Nat) (w : World) :
  (part t cs off).run P w = .ok (.agg (cs.extract off (off + n))) w := by
 simp [part, Fe ha, run_sizeOf hs]
theorem Po {t : TypeId} (ha : Jq P t = some false) (cs : Array Value) (off : Nat) (v : Value) (hv : cs[off]? = some v) (w : World) :
  (part t cs off).run P w = .ok v w := by
 simp [part, Fe ha, hv]
theorem Tj {a : Addr} {f : Field} {n : Nat} (hs : Bh P f.type = some (n + 1)) (w : World) : (fieldPlace a f).run P w = .ok (a.add f.offset) w := by
 simp [fieldPlace, run_sizeOf hs]
theorem run_sliceBound (x : Int) (k : IntKind) (y : Nat) (code : BoundsCode) (h0 : 0 ≤ x) (h : x ≤ y) (w : World) :
  (Instr.sliceBound (.int k x) y code).run P w = .ok x.toNat w := by
 simp [Instr.sliceBound, asIntOf, h0, h]
theorem mapif (base : Option Addr) (m l s : Nat) (mx lo : Int) (hm : m = mx.toNat) (hl : l = lo.toNat) (h0 : 0 ≤ lo) (h : lo ≤ mx) :
  (if m = l then base else base.map (·.add (l * s))) = (if mx = lo then base else base.map (·.add (lo.toNat * s))) := by
 subst hm; subst hl
 by_cases e : mx = lo
 ·rw [if_pos e, if_pos (by rw [e])]
 ·rw [if_neg e, if_neg (by omega)]
end
section
variable {P : Program}

def Snd (P : Program) (op : Op) (pf : PF) (xs : List Operand) : Prop :=
 ∀ (ρ : Operand → Value) (c : Prop) (v : Value), (∀ u, ρ (.const u) = u) → pev pf (xs.map ρ) = some (c, v) → c →
  ∀ o w, o.op = op → (execOp ρ o).run P w = .ok (.value v) w

theorem Ach (x : Operand) : Snd P (.move x) .mv [x] := by
 intro ρ c v _ h hc o w ho
 simp only [List.map_cons, List.map_nil, pev, Option.some.injEq, Prod.mk.injEq] at h
 obtain ⟨rfl, rfl⟩ := h
 simp [execOp, ho]
theorem Zi (x : Operand) : Snd P (.assign x) .mv [x] := by
 intro ρ c v _ h hc o w ho
 simp only [List.map_cons, List.map_nil, pev, Option.some.injEq, Prod.mk.injEq] at h
 obtain ⟨rfl, rfl⟩ := h
 simp [execOp, ho]
theorem AdO (t : TypeId) (x : Operand) : Snd P (.unOp .not t x) .not [x] := by
 intro ρ c v _ h hc o w ho
 simp only [List.map_cons, List.map_nil] at h
 cases hx : ρ x <;> rw [hx] at h <;> simp only [pev, Option.some.injEq, Prod.mk.injEq, reduceCtorEq] at h
 obtain ⟨rfl, rfl⟩ := h
 simp [execOp, ho, hx, Op.unary]
theorem AdP (t : TypeId) (x : Operand) : Snd P (.unOp .neg t x) .neg [x] := by
 intro ρ c v _ h hc o w ho
 simp only [List.map_cons, List.map_nil] at h
 cases hx : ρ x <;> rw [hx] at h <;> simp only [pev, Option.some.injEq, Prod.mk.injEq, reduceCtorEq] at h
 obtain ⟨rfl, rfl⟩ := h
 simp [execOp, ho, hx, Op.unary, Op.intArith]
theorem Abk (t : TypeId) (x : Operand) : Snd P (.unOp .xor t x) .compl [x] := by
 intro ρ c v _ h hc o w ho
 simp only [List.map_cons, List.map_nil] at h
 cases hx : ρ x <;> rw [hx] at h <;> simp only [pev, Option.some.injEq, Prod.mk.injEq, reduceCtorEq] at h
 obtain ⟨rfl, rfl⟩ := h
 simp only [execOp, ho, hx, Op.unary, Op.intBits, Sem.run_bind, Sem.run_pure, Result.andThen_ok]
theorem Acj {src dst : TypeId} {k k' : IntKind} (hs : P.underlying src = some (.int k')) (hd : P.underlying dst = some (.int k)) (x : Operand) :
  Snd P (.convert src dst x) (.conv k) [x] := by
 intro ρ c v _ h hc o w ho
 simp only [List.map_cons, List.map_nil] at h
 cases hx : ρ x <;> rw [hx] at h <;> simp only [pev, Option.some.injEq, Prod.mk.injEq, reduceCtorEq] at h
 obtain ⟨rfl, rfl⟩ := h
 simp [execOp, ho, hx, convert, run_underlying hs, run_underlying hd, Conv.intToInt]
theorem Ad0 {src dst : TypeId} (hs : P.underlying src = some .string) (hd : P.underlying dst = some .string) (x : Operand) :
  Snd P (.convert src dst x) .cvs [x] := by
 intro ρ c v _ h hc o w ho
 simp only [List.map_cons, List.map_nil] at h
 cases hx : ρ x <;> rw [hx] at h <;> simp only [pev, Option.some.injEq, Prod.mk.injEq, reduceCtorEq] at h
 obtain ⟨rfl, rfl⟩ := h
 simp [execOp, ho, hx, convert, run_underlying hs, run_underlying hd]
theorem AdZ (x : Operand) (i : Nat) : Snd P (.extract x i) (.ext i) [x] := by
 intro ρ c v _ h hc o w ho
 simp only [List.map_cons, List.map_nil] at h
 cases hx : ρ x <;> rw [hx] at h <;> simp only [pev, reduceCtorEq] at h
 rename_i vs
 cases hv : vs[i]? <;> rw [hv] at h <;> simp only [Option.some.injEq, Prod.mk.injEq, reduceCtorEq] at h
 obtain ⟨rfl, rfl⟩ := h
 simp [execOp, ho, hx, Instr.extract, hv]
theorem AdX {t : TypeId} {fs : Array Field} {i : Nat} {f : Field} {s : Nat} {b : Bool} (hd : P.underlying t = some (.struct fs)) (hf : fs[i]? = some f)
  (hs : Bh P f.type = some s) (hb : Jq P f.type = some b) (x : Operand) : Snd P (.field t x i) (.fld f.offset s b) [x] := by
 intro ρ c v _ h hc o w ho
 simp only [List.map_cons, List.map_nil] at h
 cases hx : ρ x <;> rw [hx] at h <;> (try (cases b <;> simp only [pev, reduceCtorEq] at h; done))
 rename_i cs
 cases b
 ·simp only [pev] at h
  cases hv : cs[f.offset]? <;> rw [hv] at h <;> simp only [Option.some.injEq, Prod.mk.injEq, reduceCtorEq] at h
  obtain ⟨rfl, rfl⟩ := h
  simp [execOp, ho, hx, Instr.field, run_underlying hd, hf, asAgg, Po hb _ _ _ hv]
 ·simp only [pev, Option.some.injEq, Prod.mk.injEq] at h
  obtain ⟨rfl, rfl⟩ := h
  simp [execOp, ho, hx, Instr.field, run_underlying hd, hf, asAgg, Pq hb hs]
theorem AdY {t : TypeId} {fs : Array Field} {i : Nat} {f : Field} {s : Nat} (hd : P.underlying t = some (.struct fs)) (hf : fs[i]? = some f)
  (hs : Bh P f.type = some (s + 1)) (x : Operand) : Snd P (.fieldAddr t x i) (.fad f.offset) [x] := by
 intro ρ c v _ h hc o w ho
 simp only [List.map_cons, List.map_nil] at h
 cases hx : ρ x <;> rw [hx] at h <;> (try (simp only [pev, reduceCtorEq] at h; done))
 rename_i a
 cases a <;> simp only [pev, Option.some.injEq, Prod.mk.injEq, reduceCtorEq] at h
 obtain ⟨rfl, rfl⟩ := h
 simp [execOp, ho, hx, Instr.fieldAt, run_underlying hd, hf, Instr.sureAddr, Tj hs]
theorem AdT {t el : TypeId} {s : Nat} (hd : P.underlying t = some (.slice el)) (hs : Bh P el = some s) (x i : Operand) :
  Snd P (.indexAddr t x i) (.ixs s) [x, i] := by
 intro ρ c v _ h hc o w ho
 simp only [List.map_cons, List.map_nil] at h
 cases hx : ρ x <;> rw [hx] at h <;> (try (simp only [pev, reduceCtorEq] at h; done))
 rename_i a n cap
 cases hi : ρ i <;> rw [hi] at h <;> (try (cases a <;> simp only [pev, reduceCtorEq] at h; done))
 rename_i k j
 cases a <;> simp only [pev, Option.some.injEq, Prod.mk.injEq] at h
 ·obtain ⟨rfl, _⟩ := h; exact hc.elim
 ·obtain ⟨rfl, rfl⟩ := h
  simp [execOp, ho, hx, hi, Instr.indexAt, asIntOf, run_underlying hd, hc, run_sizeOf hs]
theorem AdV {t el : TypeId} {n s : Nat} (hd : P.underlying t = some (.array n el)) (hs : Bh P el = some s) (x i : Operand) :
  Snd P (.indexAddr t x i) (.ixa n s) [x, i] := by
 intro ρ c v _ h hc o w ho
 simp only [List.map_cons, List.map_nil] at h
 cases hx : ρ x <;> rw [hx] at h <;> (try (simp only [pev, reduceCtorEq] at h; done))
 rename_i a
 cases hi : ρ i <;> rw [hi] at h <;> (try (cases a <;> simp only [pev, reduceCtorEq] at h; done))
 rename_i k j
 cases a <;> simp only [pev, Option.some.injEq, Prod.mk.injEq, reduceCtorEq] at h
 obtain ⟨rfl, rfl⟩ := h
 simp [execOp, ho, hx, hi, Instr.indexAt, asIntOf, run_underlying hd, hc, run_sizeOf hs, Instr.sureAddr]
theorem AdS {t el : TypeId} {n s : Nat} {b : Bool} (hd : P.underlying t = some (.array n el)) (hs : Bh P el = some s) (hb : Jq P el = some b) (x i : Operand) :
  Snd P (.index t x i) (.ixv n s b) [x, i] := by
 intro ρ c v _ h hc o w ho
 simp only [List.map_cons, List.map_nil] at h
 cases hx : ρ x <;> rw [hx] at h <;> (try (cases b <;> simp only [pev, reduceCtorEq] at h; done))
 rename_i cs
 cases hi : ρ i <;> rw [hi] at h <;> (try (cases b <;> simp only [pev, reduceCtorEq] at h; done))
 rename_i k j
 cases b <;> simp only [pev, Option.some.injEq, Prod.mk.injEq] at h
 ·obtain ⟨rfl, rfl⟩ := h
  have hv : cs[j.toNat * s]? = some ((cs[j.toNat * s]?).getD undef) := by rw [Array.getElem?_eq_getElem hc.2]; rfl
  simp only [execOp, ho, hx, hi, Instr.index, asIntOf, run_underlying hd, Sem.run_bind, Sem.run_pure, Result.andThen_ok, run_sizeOf hs, Sem.run_ite, Po hb _ _ _ hv, hc.1, and_self, if_true]
 ·obtain ⟨rfl, rfl⟩ := h
  simp [execOp, ho, hx, hi, Instr.index, asIntOf, run_underlying hd, hc, run_sizeOf hs, Pq hb hs]
theorem AdU {t : TypeId} (hd : P.underlying t = some .string) (x i : Operand) : Snd P (.index t x i) .ixb [x, i] := by
 intro ρ c v _ h hc o w ho
 simp only [List.map_cons, List.map_nil] at h
 cases hx : ρ x <;> rw [hx] at h <;> (try (simp only [pev, reduceCtorEq] at h; done))
 rename_i s
 cases hi : ρ i <;> rw [hi] at h <;> (try (simp only [pev, reduceCtorEq] at h; done))
 rename_i k j
 simp only [pev, Option.some.injEq, Prod.mk.injEq] at h
 obtain ⟨rfl, rfl⟩ := h
 have hlt : j.toNat < s.size := by omega
 have hv : s[j.toNat]? = some (s[j.toNat]'hlt) := by simp [hlt]
 simp [execOp, ho, hx, hi, Instr.index, asIntOf, run_underlying hd, hc, hv]
end
section
variable {P : Program}

theorem N7 (isS : Bool) (base : Option Addr) (n cap s : Nat) (lo hi mx : Option Value) (l h m : Int)
  (hl : (lo = none ∧ l = 0) ∨ ∃ k, lo = some (.int k l)) (hh : (hi = none ∧ h = n ∧ mx = none) ∨ ∃ k, hi = some (.int k h)) (hm : (mx = none ∧ m = cap) ∨ ∃ k, mx = some (.int k m))
  (h1 : 0 ≤ l) (h2 : l ≤ h) (h3 : h ≤ m) (h4 : m ≤ cap) (w : World) :
  (Instr.sliceBounds isS n cap lo hi mx).run P w = .ok (l.toNat, h.toNat, m.toNat) w := by
 have hb : ∀ (x : Int) (k : IntKind) (y : Nat) (code : BoundsCode), 0 ≤ x → x ≤ y → (Instr.sliceBound (.int k x) y code).run P w = .ok x.toNat w :=
  fun x k y code a b => run_sliceBound x k y code a b w
 have hle : h ≤ (m.toNat : Int) := by omega
 have hle2 : l ≤ (h.toNat : Int) := by omega
 rcases hm with ⟨rfl, rfl⟩ | ⟨km, rfl⟩
 ·rcases hh with ⟨rfl, rfl, _⟩ | ⟨kh, rfl⟩
  ·rcases hl with ⟨rfl, rfl⟩ | ⟨kl, rfl⟩
   ·simp [Instr.sliceBounds]
   ·simp [Instr.sliceBounds, hb l kl n _ h1 h2]
  ·rcases hl with ⟨rfl, rfl⟩ | ⟨kl, rfl⟩
   ·simp [Instr.sliceBounds, hb h kh cap _ (by omega) h3]
   ·simp [Instr.sliceBounds, hb h kh cap _ (by omega) h3, hb l kl h.toNat _ h1 hle2]
 ·rcases hh with ⟨rfl, rfl, h0⟩ | ⟨kh, rfl⟩
  ·cases h0
  ·rcases hl with ⟨rfl, rfl⟩ | ⟨kl, rfl⟩
   ·simp [Instr.sliceBounds, hb m km cap _ (by omega) h4, hb h kh m.toNat _ (by omega) hle]
   ·simp [Instr.sliceBounds, hb m km cap _ (by omega) h4, hb h kh m.toNat _ (by omega) hle, hb l kl h.toNat _ h1 hle2]

theorem Gs {t el : TypeId} {s : Nat} (hd : P.underlying t = some (.slice el)) (hs : Bh P el = some s) (a : Option Addr) (n cap : Nat) (lo hi mx : Option Value) (l h m : Int)
  (hl : (lo = none ∧ l = 0) ∨ ∃ k, lo = some (.int k l)) (hh : (hi = none ∧ h = n ∧ mx = none) ∨ ∃ k, hi = some (.int k h)) (hm : (mx = none ∧ m = cap) ∨ ∃ k, mx = some (.int k m))
  {c : Prop} {v : Value} (hp : psl a cap s l h m = some (c, v)) (hc : c) (w : World) :
  (Instr.sliceAt t (.slice a n cap) lo hi mx).run P w = .ok v w := by
 simp only [psl, Option.some.injEq, Prod.mk.injEq] at hp
 obtain ⟨rfl, rfl⟩ := hp
 obtain ⟨⟨h1, h2⟩, h3, h4⟩ := hc
 simp only [Instr.sliceAt, Sem.run_bind, run_underlying hd, Result.andThen_ok, Instr.slice, N7 true a n cap s lo hi mx l h m hl hh hm h1 h2 h3 h4, run_sizeOf hs, Sem.run_pure]
 rw [mapif a m.toNat l.toNat s m l rfl rfl h1 (by omega)]

theorem I4 {t el : TypeId} {n s : Nat} (hd : P.underlying t = some (.array n el)) (hs : Bh P el = some s) (a : Addr) (lo hi : Option Value) (l h : Int)
  (hl : (lo = none ∧ l = 0) ∨ ∃ k, lo = some (.int k l)) (hh : (hi = none ∧ h = n) ∨ ∃ k, hi = some (.int k h))
  {c : Prop} {v : Value} (hp : psl (some a) n s l h n = some (c, v)) (hc : c) (w : World) :
  (Instr.sliceAt t (.pointer (some a)) lo hi none).run P w = .ok v w := by
 simp only [psl, Option.some.injEq, Prod.mk.injEq] at hp
 obtain ⟨rfl, rfl⟩ := hp
 obtain ⟨⟨h1, h2⟩, h3, h4⟩ := hc
 have hh' : (hi = none ∧ h = n ∧ (none : Option Value) = none) ∨ ∃ k, hi = some (.int k h) := by
  rcases hh with ⟨a, b⟩ | b
  ·exact .inl ⟨a, b, rfl⟩
  ·exact .inr b
 simp only [Instr.sliceAt, Sem.run_bind, run_underlying hd, Result.andThen_ok, Instr.sureAddr, Sem.run_pure, N7 false (some a) n n s lo hi none l h n hl hh' (.inl ⟨rfl, rfl⟩) h1 h2 h3 h4, run_sizeOf hs]
 have := mapif (some a) (n : Int).toNat l.toNat s n l rfl rfl h1 (by omega)
 simp only [Option.map_some] at this ⊢
 rw [← this]
 split <;> rfl

theorem XB {t el : TypeId} {s : Nat} (hd : P.underlying t = some (.slice el)) (hs : Bh P el = some s) (x : Operand) :
  Snd P (.slice t x none none none) (.sls s false false false) [x] := by
 intro ρ c v _ h hc o w ho
 simp only [List.map_cons, List.map_nil] at h
 cases hx : ρ x <;> rw [hx] at h <;> (try (simp only [pev, reduceCtorEq] at h; done))
 simp only [pev] at h
 simp only [execOp, ho, Option.map_some, Option.map_none, hx, Sem.run_bind]
 rw [Gs hd hs _ _ _ _ _ _ _ _ _ (.inl ⟨rfl, rfl⟩) (.inl ⟨rfl, rfl, rfl⟩) (.inl ⟨rfl, rfl⟩) h hc]; rfl
theorem Xy {t el : TypeId} {s : Nat} (hd : P.underlying t = some (.slice el)) (hs : Bh P el = some s) (x y : Operand) :
  Snd P (.slice t x (some y) none none) (.sls s true false false) [x, y] := by
 intro ρ c v _ h hc o w ho
 simp only [List.map_cons, List.map_nil] at h
 cases hx : ρ x <;> rw [hx] at h <;> (try (simp only [pev, reduceCtorEq] at h; done))
 cases hy : ρ y <;> rw [hy] at h <;> (try (simp only [pev, reduceCtorEq] at h; done))
 simp only [pev] at h
 simp only [execOp, ho, Option.map_some, Option.map_none, hx, hy, Sem.run_bind]
 rw [Gs hd hs _ _ _ _ _ _ _ _ _ (.inr ⟨_, rfl⟩) (.inl ⟨rfl, rfl, rfl⟩) (.inl ⟨rfl, rfl⟩) h hc]; rfl
theorem XA {t el : TypeId} {s : Nat} (hd : P.underlying t = some (.slice el)) (hs : Bh P el = some s) (x z : Operand) :
  Snd P (.slice t x none (some z) none) (.sls s false true false) [x, z] := by
 intro ρ c v _ h hc o w ho
 simp only [List.map_cons, List.map_nil] at h
 cases hx : ρ x <;> rw [hx] at h <;> (try (simp only [pev, reduceCtorEq] at h; done))
 cases hz : ρ z <;> rw [hz] at h <;> (try (simp only [pev, reduceCtorEq] at h; done))
 simp only [pev] at h
 simp only [execOp, ho, Option.map_some, Option.map_none, hx, hz, Sem.run_bind]
 rw [Gs hd hs _ _ _ _ _ _ _ _ _ (.inl ⟨rfl, rfl⟩) (.inr ⟨_, rfl⟩) (.inl ⟨rfl, rfl⟩) h hc]; rfl
theorem Xx {t el : TypeId} {s : Nat} (hd : P.underlying t = some (.slice el)) (hs : Bh P el = some s) (x y z : Operand) :
  Snd P (.slice t x (some y) (some z) none) (.sls s true true false) [x, y, z] := by
 intro ρ c v _ h hc o w ho
 simp only [List.map_cons, List.map_nil] at h
 cases hx : ρ x <;> rw [hx] at h <;> (try (simp only [pev, reduceCtorEq] at h; done))
 cases hy : ρ y <;> rw [hy] at h <;> (try (simp only [pev, reduceCtorEq] at h; done))
 cases hz : ρ z <;> rw [hz] at h <;> (try (simp only [pev, reduceCtorEq] at h; done))
 simp only [pev] at h
 simp only [execOp, ho, Option.map_some, Option.map_none, hx, hy, hz, Sem.run_bind]
 rw [Gs hd hs _ _ _ _ _ _ _ _ _ (.inr ⟨_, rfl⟩) (.inr ⟨_, rfl⟩) (.inl ⟨rfl, rfl⟩) h hc]; rfl
theorem Xz {t el : TypeId} {s : Nat} (hd : P.underlying t = some (.slice el)) (hs : Bh P el = some s) (x z u : Operand) :
  Snd P (.slice t x none (some z) (some u)) (.sls s false true true) [x, z, u] := by
 intro ρ c v _ h hc o w ho
 simp only [List.map_cons, List.map_nil] at h
 cases hx : ρ x <;> rw [hx] at h <;> (try (simp only [pev, reduceCtorEq] at h; done))
 cases hz : ρ z <;> rw [hz] at h <;> (try (simp only [pev, reduceCtorEq] at h; done))
 cases hu : ρ u <;> rw [hu] at h <;> (try (simp only [pev, reduceCtorEq] at h; done))
 simp only [pev] at h
 simp only [execOp, ho, Option.map_some, Option.map_none, hx, hz, hu, Sem.run_bind]
 rw [Gs hd hs _ _ _ _ _ _ _ _ _ (.inl ⟨rfl, rfl⟩) (.inr ⟨_, rfl⟩) (.inr ⟨_, rfl⟩) h hc]; rfl
theorem Xw {t el : TypeId} {s : Nat} (hd : P.underlying t = some (.slice el)) (hs : Bh P el = some s) (x y z u : Operand) :
  Snd P (.slice t x (some y) (some z) (some u)) (.sls s true true true) [x, y, z, u] := by
 intro ρ c v _ h hc o w ho
 simp only [List.map_cons, List.map_nil] at h
 cases hx : ρ x <;> rw [hx] at h <;> (try (simp only [pev, reduceCtorEq] at h; done))
 cases hy : ρ y <;> rw [hy] at h <;> (try (simp only [pev, reduceCtorEq] at h; done))
 cases hz : ρ z <;> rw [hz] at h <;> (try (simp only [pev, reduceCtorEq] at h; done))
 cases hu : ρ u <;> rw [hu] at h <;> (try (simp only [pev, reduceCtorEq] at h; done))
 simp only [pev] at h
 simp only [execOp, ho, Option.map_some, Option.map_none, hx, hy, hz, hu, Sem.run_bind]
 rw [Gs hd hs _ _ _ _ _ _ _ _ _ (.inr ⟨_, rfl⟩) (.inr ⟨_, rfl⟩) (.inr ⟨_, rfl⟩) h hc]; rfl
theorem Zg {t el : TypeId} {n s : Nat} (hd : P.underlying t = some (.array n el)) (hs : Bh P el = some s) (x : Operand) :
  Snd P (.slice t x none none none) (.sla n s false false) [x] := by
 intro ρ c v _ h hc o w ho
 simp only [List.map_cons, List.map_nil] at h
 cases hx : ρ x <;> rw [hx] at h <;> (try (simp only [pev, reduceCtorEq] at h; done))
 rename_i a
 cases a <;> (try (simp only [pev, reduceCtorEq] at h; done))
 simp only [pev] at h
 simp only [execOp, ho, Option.map_some, Option.map_none, hx, Sem.run_bind]
 rw [I4 hd hs _ _ _ _ _ (.inl ⟨rfl, rfl⟩) (.inl ⟨rfl, rfl⟩) h hc]; rfl
theorem Ze {t el : TypeId} {n s : Nat} (hd : P.underlying t = some (.array n el)) (hs : Bh P el = some s) (x y : Operand) :
  Snd P (.slice t x (some y) none none) (.sla n s true false) [x, y] := by
 intro ρ c v _ h hc o w ho
 simp only [List.map_cons, List.map_nil] at h
 cases hx : ρ x <;> rw [hx] at h <;> (try (simp only [pev, reduceCtorEq] at h; done))
 rename_i a
 cases a <;> (try (simp only [pev, reduceCtorEq] at h; done))
 cases hy : ρ y <;> rw [hy] at h <;> (try (simp only [pev, reduceCtorEq] at h; done))
 simp only [pev] at h
 simp only [execOp, ho, Option.map_some, Option.map_none, hx, hy, Sem.run_bind]
 rw [I4 hd hs _ _ _ _ _ (.inr ⟨_, rfl⟩) (.inl ⟨rfl, rfl⟩) h hc]; rfl
theorem Zf {t el : TypeId} {n s : Nat} (hd : P.underlying t = some (.array n el)) (hs : Bh P el = some s) (x z : Operand) :
  Snd P (.slice t x none (some z) none) (.sla n s false true) [x, z] := by
 intro ρ c v _ h hc o w ho
 simp only [List.map_cons, List.map_nil] at h
 cases hx : ρ x <;> rw [hx] at h <;> (try (simp only [pev, reduceCtorEq] at h; done))
 rename_i a
 cases a <;> (try (simp only [pev, reduceCtorEq] at h; done))
 cases hz : ρ z <;> rw [hz] at h <;> (try (simp only [pev, reduceCtorEq] at h; done))
 simp only [pev] at h
 simp only [execOp, ho, Option.map_some, Option.map_none, hx, hz, Sem.run_bind]
 rw [I4 hd hs _ _ _ _ _ (.inl ⟨rfl, rfl⟩) (.inr ⟨_, rfl⟩) h hc]; rfl
theorem Zd {t el : TypeId} {n s : Nat} (hd : P.underlying t = some (.array n el)) (hs : Bh P el = some s) (x y z : Operand) :
  Snd P (.slice t x (some y) (some z) none) (.sla n s true true) [x, y, z] := by
 intro ρ c v _ h hc o w ho
 simp only [List.map_cons, List.map_nil] at h
 cases hx : ρ x <;> rw [hx] at h <;> (try (simp only [pev, reduceCtorEq] at h; done))
 rename_i a
 cases a <;> (try (simp only [pev, reduceCtorEq] at h; done))
 cases hy : ρ y <;> rw [hy] at h <;> (try (simp only [pev, reduceCtorEq] at h; done))
 cases hz : ρ z <;> rw [hz] at h <;> (try (simp only [pev, reduceCtorEq] at h; done))
 simp only [pev] at h
 simp only [execOp, ho, Option.map_some, Option.map_none, hx, hy, hz, Sem.run_bind]
 rw [I4 hd hs _ _ _ _ _ (.inr ⟨_, rfl⟩) (.inr ⟨_, rfl⟩) h hc]; rfl
theorem Zc {t : TypeId} (hd : P.underlying t = some .string) (x : Operand) :
  Snd P (.slice t x none none none) (.slt false false) [x] := by
 intro ρ c v _ h hc o w ho
 simp only [List.map_cons, List.map_nil] at h
 cases hx : ρ x <;> rw [hx] at h <;> (try (simp only [pev, reduceCtorEq] at h; done))
 simp only [pev, Option.some.injEq, Prod.mk.injEq] at h
 obtain ⟨rfl, rfl⟩ := h
 simp only [execOp, ho, Option.map_some, Option.map_none, hx, Sem.run_bind, Instr.sliceAt, run_underlying hd, Result.andThen_ok, Instr.slice, Option.isSome_none, Bool.false_eq_true, if_false, Sem.run_pure]
 rw [N7 (P := P) false none _ _ 1 _ _ none _ _ _ (.inl ⟨rfl, rfl⟩) (.inl ⟨rfl, rfl, rfl⟩) (.inl ⟨rfl, rfl⟩) (by omega) (by omega) (by omega) (by omega)]
 simp only [Result.andThen_ok, Sem.run_pure, Int.toNat_natCast, Int.toNat_zero]
theorem Za {t : TypeId} (hd : P.underlying t = some .string) (x y : Operand) :
  Snd P (.slice t x (some y) none none) (.slt true false) [x, y] := by
 intro ρ c v _ h hc o w ho
 simp only [List.map_cons, List.map_nil] at h
 cases hx : ρ x <;> rw [hx] at h <;> (try (simp only [pev, reduceCtorEq] at h; done))
 cases hy : ρ y <;> rw [hy] at h <;> (try (simp only [pev, reduceCtorEq] at h; done))
 simp only [pev, Option.some.injEq, Prod.mk.injEq] at h
 obtain ⟨rfl, rfl⟩ := h
 simp only [execOp, ho, Option.map_some, Option.map_none, hx, hy, Sem.run_bind, Instr.sliceAt, run_underlying hd, Result.andThen_ok, Instr.slice, Option.isSome_none, Bool.false_eq_true, if_false, Sem.run_pure]
 rw [N7 (P := P) false none _ _ 1 _ _ none _ _ _ (.inr ⟨_, rfl⟩) (.inl ⟨rfl, rfl, rfl⟩) (.inl ⟨rfl, rfl⟩) (by omega) (by omega) (by omega) (by omega)]
 simp only [Result.andThen_ok, Sem.run_pure, Int.toNat_natCast, Int.toNat_zero]
theorem Zb {t : TypeId} (hd : P.underlying t = some .string) (x z : Operand) :
  Snd P (.slice t x none (some z) none) (.slt false true) [x, z] := by
 intro ρ c v _ h hc o w ho
 simp only [List.map_cons, List.map_nil] at h
 cases hx : ρ x <;> rw [hx] at h <;> (try (simp only [pev, reduceCtorEq] at h; done))
 cases hz : ρ z <;> rw [hz] at h <;> (try (simp only [pev, reduceCtorEq] at h; done))
 simp only [pev, Option.some.injEq, Prod.mk.injEq] at h
 obtain ⟨rfl, rfl⟩ := h
 simp only [execOp, ho, Option.map_some, Option.map_none, hx, hz, Sem.run_bind, Instr.sliceAt, run_underlying hd, Result.andThen_ok, Instr.slice, Option.isSome_none, Bool.false_eq_true, if_false, Sem.run_pure]
 rw [N7 (P := P) false none _ _ 1 _ _ none _ _ _ (.inl ⟨rfl, rfl⟩) (.inr ⟨_, rfl⟩) (.inl ⟨rfl, rfl⟩) (by omega) (by omega) (by omega) (by omega)]
 simp only [Result.andThen_ok, Sem.run_pure, Int.toNat_natCast, Int.toNat_zero]
theorem Y9 {t : TypeId} (hd : P.underlying t = some .string) (x y z : Operand) :
  Snd P (.slice t x (some y) (some z) none) (.slt true true) [x, y, z] := by
 intro ρ c v _ h hc o w ho
 simp only [List.map_cons, List.map_nil] at h
 cases hx : ρ x <;> rw [hx] at h <;> (try (simp only [pev, reduceCtorEq] at h; done))
 cases hy : ρ y <;> rw [hy] at h <;> (try (simp only [pev, reduceCtorEq] at h; done))
 cases hz : ρ z <;> rw [hz] at h <;> (try (simp only [pev, reduceCtorEq] at h; done))
 simp only [pev, Option.some.injEq, Prod.mk.injEq] at h
 obtain ⟨rfl, rfl⟩ := h
 simp only [execOp, ho, Option.map_some, Option.map_none, hx, hy, hz, Sem.run_bind, Instr.sliceAt, run_underlying hd, Result.andThen_ok, Instr.slice, Option.isSome_none, Bool.false_eq_true, if_false, Sem.run_pure]
 rw [N7 (P := P) false none _ _ 1 _ _ none _ _ _ (.inr ⟨_, rfl⟩) (.inr ⟨_, rfl⟩) (.inl ⟨rfl, rfl⟩) (by omega) (by omega) (by omega) (by omega)]
 simp only [Result.andThen_ok, Sem.run_pure, Int.toNat_natCast, Int.toNat_zero]
end
section
variable {P : Program}

theorem snd_fn (f : Fn) (first captured : Array Operand) : Snd P (.makeFunc f first captured) (.fn f first.size) (first.toList ++ captured.toList) := by
 intro ρ c v _ h hc o w ho
 simp only [pev, Option.some.injEq, Prod.mk.injEq] at h
 obtain ⟨rfl, rfl⟩ := h
 simp only [execOp, ho, Instr.makeFunc, Sem.run_bind, Sem.run_pure, Result.andThen_ok, List.map_append]
 congr 3
 ·apply Array.toList_inj.1
  simp
 ·apply Array.toList_inj.1
  simp
theorem AdW {t : TypeId} {d : TypeDesc} (hd : P.underlying t = some d) (hn : ∀ m, d ≠ .interface m) (x : Operand) : Snd P (.makeInterface t x) (.ifc t) [x] := by
 intro ρ c v _ h hc o w ho
 simp only [List.map_cons, List.map_nil, pev, Option.some.injEq, Prod.mk.injEq] at h
 obtain ⟨rfl, rfl⟩ := h
 simp only [execOp, ho, Instr.makeInterface, Sem.run_bind, run_underlying hd, Result.andThen_ok]
 cases d <;> first | exact absurd rfl (hn _) | rfl
theorem Acf (x y z : Operand) : Snd P (.pick x y z) .pick [x, y, z] := by
 intro ρ c v _ h hc o w ho
 simp only [List.map_cons, List.map_nil] at h
 cases hx : ρ x <;> rw [hx] at h <;> (try (simp only [pev, reduceCtorEq] at h; done))
 simp only [pev, Option.some.injEq, Prod.mk.injEq] at h
 obtain ⟨rfl, rfl⟩ := h
 simp only [execOp, ho, hx, asBool, Sem.run_bind, Sem.run_pure, Result.andThen_ok]
theorem Acg (x : Operand) : Snd P (.nilCheck x) .nilc [x] := by
 intro ρ c v _ h hc o w ho
 simp only [List.map_cons, List.map_nil] at h
 simp only [execOp, ho]
 cases hx : ρ x <;> rw [hx] at h <;> (try (simp only [pev, reduceCtorEq] at h; done))
 ·rename_i a
  cases a <;> simp only [pev, Option.some.injEq, Prod.mk.injEq, reduceCtorEq] at h
  obtain ⟨rfl, rfl⟩ := h
  rfl
 ·rename_i f a b
  cases f <;> simp only [pev, Option.some.injEq, Prod.mk.injEq, reduceCtorEq] at h
  obtain ⟨rfl, rfl⟩ := h
  rfl
 ·simp only [pev, Option.some.injEq, Prod.mk.injEq] at h
  obtain ⟨rfl, rfl⟩ := h
  rfl
theorem Zh {el : TypeId} {args : Array Operand} {argTypes : Array TypeId} {x : Operand} (ha : args.toList = [x])
  (ht : (argTypes[0]?).bind P.underlying = some (.slice el)) : Snd P (.call { callee := .builtin .len, args, argTypes }) .len [x] := by
 intro ρ c v _ h hc o w ho
 simp only [List.map_cons, List.map_nil] at h
 obtain ⟨args⟩ := args
 simp only at ha
 subst ha
 cases h0 : argTypes[0]? with
 | none => rw [h0] at ht; cases ht
 | some t =>
  rw [h0] at ht
  simp only [Option.bind_some] at ht
  cases hx : ρ x <;> rw [hx] at h <;> (try (simp only [pev, reduceCtorEq] at h; done))
  ·simp only [pev, Option.some.injEq, Prod.mk.injEq] at h
   obtain ⟨rfl, rfl⟩ := h
   simp [execOp, ho, resolve, invoke, builtin, Builtin.len_, h0, run_underlying ht, hx, goInt]

theorem Aci {args : Array Operand} {argTypes : Array TypeId} {x : Operand} (ha : args.toList = [x])
  (ht : (argTypes[0]?).bind P.underlying = some .string) : Snd P (.call { callee := .builtin .len, args, argTypes }) .lens [x] := by
 intro ρ c v _ h hc o w ho
 simp only [List.map_cons, List.map_nil] at h
 obtain ⟨args⟩ := args
 simp only at ha
 subst ha
 cases h0 : argTypes[0]? with
 | none => rw [h0] at ht; cases ht
 | some t =>
  rw [h0] at ht
  simp only [Option.bind_some] at ht
  cases hx : ρ x <;> rw [hx] at h <;> (try (simp only [pev, reduceCtorEq] at h; done))
  simp only [pev, Option.some.injEq, Prod.mk.injEq] at h
  obtain ⟨rfl, rfl⟩ := h
  simp [execOp, ho, resolve, invoke, builtin, Builtin.len_, h0, run_underlying ht, hx, goInt]
theorem Ad1 {el : TypeId} {args : Array Operand} {argTypes : Array TypeId} {x : Operand} (ha : args.toList = [x])
  (ht : (argTypes[0]?).bind P.underlying = some (.slice el)) : Snd P (.call { callee := .builtin .cap, args, argTypes }) .cap [x] := by
 intro ρ c v _ h hc o w ho
 simp only [List.map_cons, List.map_nil] at h
 obtain ⟨args⟩ := args
 simp only at ha
 subst ha
 cases h0 : argTypes[0]? with
 | none => rw [h0] at ht; cases ht
 | some t =>
  rw [h0] at ht
  simp only [Option.bind_some] at ht
  cases hx : ρ x <;> rw [hx] at h <;> (try (simp only [pev, reduceCtorEq] at h; done))
  simp only [pev, Option.some.injEq, Prod.mk.injEq] at h
  obtain ⟨rfl, rfl⟩ := h
  simp [execOp, ho, resolve, invoke, builtin, Builtin.cap_, h0, run_underlying ht, hx, goInt]
theorem V7 {n el : Nat} {args : Array Operand} {argTypes : Array TypeId} {x : Operand} (ha : args.toList = [x])
  (ht : (argTypes[0]?).bind P.underlying = some (.array n el)) : Snd P (.call { callee := .builtin .len, args, argTypes }) (.lenc n) [x] := by
 intro ρ c v _ h hc o w ho
 simp only [List.map_cons, List.map_nil, pev, Option.some.injEq, Prod.mk.injEq] at h
 obtain ⟨rfl, rfl⟩ := h
 obtain ⟨args⟩ := args
 simp only at ha
 subst ha
 cases h0 : argTypes[0]? with
 | none => rw [h0] at ht; cases ht
 | some t =>
  rw [h0] at ht
  simp only [Option.bind_some] at ht
  simp [execOp, ho, resolve, invoke, builtin, Builtin.len_, h0, run_underlying ht, goInt]
theorem V6 {n el a : Nat} {args : Array Operand} {argTypes : Array TypeId} {x : Operand} (ha : args.toList = [x])
  (ht : (argTypes[0]?).bind P.underlying = some (.pointer a)) (hu : P.underlying a = some (.array n el)) : Snd P (.call { callee := .builtin .len, args, argTypes }) (.lenc n) [x] := by
 intro ρ c v _ h hc o w ho
 simp only [List.map_cons, List.map_nil, pev, Option.some.injEq, Prod.mk.injEq] at h
 obtain ⟨rfl, rfl⟩ := h
 obtain ⟨args⟩ := args
 simp only at ha
 subst ha
 cases h0 : argTypes[0]? with
 | none => rw [h0] at ht; cases ht
 | some t =>
  rw [h0] at ht
  simp only [Option.bind_some] at ht
  simp [execOp, ho, resolve, invoke, builtin, Builtin.len_, h0, run_underlying ht, run_underlying hu, goInt]
theorem X3 (k k' : IntKind) (a b : Int) (w : World) : (Builtin.max2 (.int k a) (.int k' b)).run P w = .ok (.int k (max a b)) w := by
 simp only [Builtin.max2, Sem.run_pure]
 congr 2
 rw [Int.max_def]
 split <;> split <;> omega
theorem AcQ (k k' : IntKind) (a b : Int) (w : World) : (Builtin.min2 (.int k a) (.int k' b)).run P w = .ok (.int k (min a b)) w := by
 simp only [Builtin.min2, Sem.run_pure]
 congr 2
 rw [Int.min_def]
 split <;> split <;> omega
theorem AdR (args : Array Operand) (argTypes : Array TypeId) : Snd P (.call { callee := .builtin .max, args, argTypes }) .max args.toList := by
 intro ρ c v _ h hc o w ho
 obtain ⟨args⟩ := args
 simp only at h ⊢
 rcases args with _ | ⟨x, _ | ⟨y, _ | ⟨z, _ | _⟩⟩⟩ <;> simp only [List.map_nil, List.map_cons] at h
 ·simp only [pev, reduceCtorEq] at h
 ·cases hx : ρ x <;> rw [hx] at h <;> simp only [pev, reduceCtorEq] at h
 ·cases hx : ρ x <;> rw [hx] at h <;> (try (simp only [pev, reduceCtorEq] at h; done))
  cases hy : ρ y <;> rw [hy] at h <;> (try (simp only [pev, reduceCtorEq] at h; done))
  simp only [pev, Option.some.injEq, Prod.mk.injEq] at h
  obtain ⟨rfl, rfl⟩ := h
  simp [execOp, ho, resolve, invoke, builtin, Builtin.max_, hx, hy, X3]
 ·cases hx : ρ x <;> rw [hx] at h <;> (try (simp only [pev, reduceCtorEq] at h; done))
  cases hy : ρ y <;> rw [hy] at h <;> (try (simp only [pev, reduceCtorEq] at h; done))
  cases hz : ρ z <;> rw [hz] at h <;> (try (simp only [pev, reduceCtorEq] at h; done))
  simp only [pev, Option.some.injEq, Prod.mk.injEq] at h
  obtain ⟨rfl, rfl⟩ := h
  simp [execOp, ho, resolve, invoke, builtin, Builtin.max_, hx, hy, hz, X3]
 ·cases hx : ρ x <;> rw [hx] at h <;> (try (simp only [pev, reduceCtorEq] at h; done))
  cases hy : ρ y <;> rw [hy] at h <;> (try (simp only [pev, reduceCtorEq] at h; done))
  cases hz : ρ z <;> rw [hz] at h <;> (try (simp only [pev, reduceCtorEq] at h; done))
theorem AdQ (args : Array Operand) (argTypes : Array TypeId) : Snd P (.call { callee := .builtin .min, args, argTypes }) .min args.toList := by
 intro ρ c v _ h hc o w ho
 obtain ⟨args⟩ := args
 simp only at h ⊢
 rcases args with _ | ⟨x, _ | ⟨y, _ | _⟩⟩ <;> simp only [List.map_nil, List.map_cons] at h
 ·simp only [pev, reduceCtorEq] at h
 ·cases hx : ρ x <;> rw [hx] at h <;> simp only [pev, reduceCtorEq] at h
 ·cases hx : ρ x <;> rw [hx] at h <;> (try (simp only [pev, reduceCtorEq] at h; done))
  cases hy : ρ y <;> rw [hy] at h <;> (try (simp only [pev, reduceCtorEq] at h; done))
  simp only [pev, Option.some.injEq, Prod.mk.injEq] at h
  obtain ⟨rfl, rfl⟩ := h
  simp [execOp, ho, resolve, invoke, builtin, Builtin.min_, hx, hy, AcQ]
 ·cases hx : ρ x <;> rw [hx] at h <;> (try (simp only [pev, reduceCtorEq] at h; done))
  cases hy : ρ y <;> rw [hy] at h <;> (try (simp only [pev, reduceCtorEq] at h; done))

theorem NY {op : BinOp} {t : TypeId} {x y : Operand} {t' : TypeId} {ρ : Operand → Value} {v : Value} {o : Oper} (ho : o.op = .binOp op t x y t') (w : World)
  (h1 : ∀ c d, ρ x = .agg c → ρ y = .agg d → False) (h2 : ρ x = .nilIface → ρ y = .nilIface → Ih x = true ∨ Ih y = true)
  (h : (binOp op t (ρ x) (ρ y)).run P w = .ok v w) : (execOp ρ o).run P w = .ok (.value v) w := by
 simp only [execOp, ho, Sem.run_bind, ZK op t x y _ _ w h1 h2, Result.andThen_ok, h, Sem.run_pure]
theorem Aas {op : BinOp} {t : TypeId} {x y : Operand} {t' : TypeId} : Snd P (.binOp op t x y t') (.bin op) [x, y] := by
 intro ρ c v _ h hc o w ho
 simp only [List.map_cons, List.map_nil, pev] at h
 refine NY ho w (fun a b ha hb => ?_) (fun ha hb => ?_) (Zx h hc w)
 ·rw [ha, hb] at h; simp only [FV, reduceCtorEq] at h
 ·rw [ha, hb] at h; simp only [FV, reduceCtorEq] at h
theorem Ack {op : BinOp} {t : TypeId} {x y : Operand} {t' : TypeId} (hd : P.underlying t = some .bool) : Snd P (.binOp op t x y t') (.binb op) [x, y] := by
 intro ρ c v _ h hc o w ho
 simp only [List.map_cons, List.map_nil, pev] at h
 refine NY ho w (fun a b ha hb => ?_) (fun ha hb => ?_) (XO hd h hc w)
 ·rw [ha, hb] at h; simp only [D5, reduceCtorEq] at h
 ·rw [ha, hb] at h; simp only [D5, reduceCtorEq] at h
theorem PO {k : NK} {x : Operand} (h : Ku k x = true) {ρ : Operand → Value} (hρ : ∀ u, ρ (.const u) = u) : Eb k (ρ x) = some true ∧ (ρ x = .nilIface → Ih x = true) := by
 cases x <;> simp only [Ku, Bool.false_eq_true] at h
 rename_i v
 rw [hρ]
 refine ⟨by simpa using h, fun e => ?_⟩
 subst e
 rfl
theorem Xj {k : NK} {c : Array Value} {b : Bool} (h : Eb k (.agg c) = some b) : False := by
 cases k <;> simp only [Eb, reduceCtorEq] at h
theorem UI {t : TypeId} {x y : Value} {b : Bool} {w : World} {k : NK} {c : Bool} (hx : Eb k x = some c) (h : (Op.equal t x y).run P w = .ok b w) :
  (binOp .eql t x y).run P w = .ok (.bool b) w ∧ (binOp .neq t x y).run P w = .ok (.bool (!b)) w := by
 cases k <;> cases x <;> simp only [Eb, reduceCtorEq] at hx <;> cases y <;> simp [binOp, h]
theorem Ui {t : TypeId} {x y : Value} {b : Bool} {w : World} {k : NK} {c : Bool} (hx : Eb k y = some c) (h : (Op.equal t x y).run P w = .ok b w) :
  (binOp .eql t x y).run P w = .ok (.bool b) w ∧ (binOp .neq t x y).run P w = .ok (.bool (!b)) w := by
 cases k <;> cases y <;> simp only [Eb, reduceCtorEq] at hx <;> cases x <;> simp [binOp, h]
theorem QT {op : BinOp} {t : TypeId} {d : TypeDesc} {k : NK} {x y : Operand} {t' : TypeId} {neg : Bool} (hd : P.underlying t = some d) (hk : nkOf d = some k)
  (hy : Ku k y = true) (hop : op = if neg then .neq else .eql) : Snd P (.binOp op t x y t') (.isnil k neg) [x] := by
 intro ρ c v hρ h hc o w ho
 simp only [List.map_cons, List.map_nil, pev] at h
 obtain ⟨h1, h2⟩ := PO hy hρ
 cases hx : Eb k (ρ x) with
 | none => rw [hx] at h; cases h
 | some b =>
  rw [hx] at h
  simp only [Option.some.injEq, Prod.mk.injEq] at h
  obtain ⟨rfl, rfl⟩ := h
  refine NY ho w (fun a b ha hb => by rw [ha] at hx; exact Xj hx) (fun _ hb => .inr (h2 hb)) ?_
  have := UI (t := t) hx (Oo (P := P) hd hk hx h1 w).1
  subst hop
  cases neg
  ·simpa using this.1
  ·simpa using this.2
theorem QU {op : BinOp} {t : TypeId} {d : TypeDesc} {k : NK} {x y : Operand} {t' : TypeId} {neg : Bool} (hd : P.underlying t = some d) (hk : nkOf d = some k)
  (hy : Ku k x = true) (hop : op = if neg then .neq else .eql) : Snd P (.binOp op t x y t') (.isnil k neg) [y] := by
 intro ρ c v hρ h hc o w ho
 simp only [List.map_cons, List.map_nil, pev] at h
 obtain ⟨h1, h2⟩ := PO hy hρ
 cases hx : Eb k (ρ y) with
 | none => rw [hx] at h; cases h
 | some b =>
  rw [hx] at h
  simp only [Option.some.injEq, Prod.mk.injEq] at h
  obtain ⟨rfl, rfl⟩ := h
  refine NY ho w (fun a b ha hb => by rw [hb] at hx; exact Xj hx) (fun ha _ => .inl (h2 ha)) ?_
  have := Ui (t := t) hx (Oo (P := P) hd hk hx h1 w).2
  subst hop
  cases neg
  ·simpa using this.1
  ·simpa using this.2

/-! ### structs and arrays by their parts -/
theorem Uz (cs : List Value) : ∀ (cells : Array Value) (off j : Nat),
  ((cs.zipIdx j).foldl (fun (a : Array Value) (p : Value × Nat) => a.setIfInBounds (off + p.2) p.1) cells).toList = EF cells.toList (off + j) cs := by
 induction cs with
 | nil => intro cells off j; rfl
 | cons c cs ih =>
  intro cells off j
  simp only [List.zipIdx_cons, List.foldl_cons, EF]
  rw [ih]
  simp [Nat.add_assoc]
theorem Np (place : Nat → Option (Nat × Nat)) : ∀ (ps : List (Nat × Nat)) (is : List Nat) (vs : List Value) (cells : Array Value) (out : List Value),
  is.map place = ps.map some → II ps vs cells.toList = some out → Instr.fill place cells (is.zip vs) = some out.toArray ∧ is.length = vs.length := by
 intro ps
 induction ps with
 | nil =>
  intro is vs cells out hm h
  cases is with
  | cons => simp at hm
  | nil =>
   cases vs with
   | cons => simp only [II, reduceCtorEq] at h
   | nil => simp only [II, Option.some.injEq] at h; subst h; simp [Instr.fill]
 | cons p ps ih =>
  intro is vs cells out hm h
  cases is with
  | nil => simp at hm
  | cons i is =>
   simp only [List.map_cons, List.cons.injEq] at hm
   cases vs with
   | nil => simp only [II, reduceCtorEq] at h
   | cons v vs =>
    obtain ⟨off, size⟩ := p
    simp only [II] at h
    split at h
    ·rename_i hsz
     have hfold := Uz v.cells.toList cells off 0
     have h' : II ps vs ((v.cells.zipIdx.foldl (fun cs (p : Value × Nat) => cs.setIfInBounds (off + p.2) p.1) cells).toList) = some out := by
      rw [← Array.foldl_toList, Array.toList_zipIdx, hfold]; exact h
     obtain ⟨h1, h2⟩ := ih is vs _ out hm.2 h'
     refine ⟨?_, by simp [h2]⟩
     simp only [List.zip_cons_cons, Instr.fill, hm.1]
     rw [if_neg (by simp [hsz.1]; simpa using hsz.2)]
     exact h1
    ·cases h
end
section
variable {P : Program}

theorem Ol {α β : Type} (f : α → Sem β) (g : α → β) (w : World) : ∀ (l : List α), (∀ x ∈ l, (f x).run P w = .ok (g x) w) → (l.mapM f).run P w = .ok (l.map g) w
 | [], _ => by simp
 | x :: l, h => by
  simp only [List.mapM_cons, Sem.run_bind, h x (by simp), Result.andThen_ok, Ol f g w l (fun y hy => h y (by simp [hy])), Sem.run_pure, List.map_cons]
theorem V9 {α β : Type} (f : α → Sem β) (g : α → β) (w : World) (l : Array α) (h : ∀ x ∈ l, (f x).run P w = .ok (g x) w) : (l.mapM f).run P w = .ok (l.map g) w := by
 rw [Array.mapM_eq_mapM_toList]
 simp only [Sem.run_map, Ol f g w l.toList (fun x hx => h x (by simpa using hx)), Result.andThen_ok]
 congr 1
 apply Array.toList_inj.1
 simp

def placeOf (P : Program) (f : Field) : Nat × Nat := (f.offset, (Bh P f.type).getD 0)
theorem Zt {fs : Array Field} (h : Oz P fs = true) (w : World) :
  (fs.mapM fun (f : Field) => (do pure (f.offset, ← sizeOf f.type) : Sem (Nat × Nat))).run P w = .ok (fs.map (placeOf P)) w := by
 refine V9 _ (placeOf P) w fs (fun f hf => ?_)
 have := Array.all_eq_true_iff_forall_mem.1 h f hf
 obtain ⟨n, hn⟩ := Option.isSome_iff_exists.1 this
 simp [run_sizeOf hn, placeOf, hn]
theorem Ot {fs : Array Field} : ∀ (is : List Nat) (ps : List (Nat × Nat)), placesOf P fs is = some ps → is.map (fun i => (fs.map (placeOf P))[i]?) = ps.map some
 | [], ps, h => by simp only [placesOf, Option.some.injEq] at h; subst h; rfl
 | i :: is, ps, h => by
  simp only [placesOf] at h
  cases hf : fs[i]? with
  | none => rw [hf] at h; cases h
  | some f =>
   cases hp : placesOf P fs is with
   | none => rw [hf, hp] at h; cases h
   | some ps' =>
    rw [hf, hp] at h
    simp only at h
    cases hs : Bh P f.type with
    | none => rw [hs] at h; cases h
    | some s =>
     rw [hs] at h
     simp only [Option.map_some, Option.some.injEq] at h
     subst h
     have := Ot is ps' hp
     simp only [List.map_cons, Array.getElem?_map, hf, Option.map_some, placeOf, hs, Option.getD_some]
     rw [← this]
     simp only [Array.getElem?_map]
theorem Qw (ρ : Operand → Value) (parts : Array (Nat × Operand)) :
  (parts.map fun (i, x) => (i, ρ x)).toList = (parts.toList.map (·.1)).zip ((parts.toList.map (·.2)).map ρ) := by
 obtain ⟨l⟩ := parts
 simp only [List.map_toArray]
 induction l with
 | nil => rfl
 | cons p l ih => simp [ih]
theorem Qn {t : TypeId} {fs : Array Field} {z : List Value} {parts : Array (Nat × Operand)} {ps : List (Nat × Nat)} (hd : P.underlying t = some (.struct fs)) (hz : zeroAt P t = some z)
  (hk : Oz P fs = true) (hp : placesOf P fs (parts.toList.map (·.1)) = some ps) : Snd P (.build t parts) (.build z ps) (parts.toList.map (·.2)) := by
 intro ρ c v hρ h hc o w ho
 simp only [pev] at h
 cases hb : II ps ((parts.toList.map (·.2)).map ρ) z with
 | none => rw [hb] at h; cases h
 | some cs =>
  rw [hb] at h
  simp only [Option.some.injEq, Prod.mk.injEq] at h
  obtain ⟨rfl, rfl⟩ := h
  obtain ⟨zv, hzr, hzc⟩ := Lt hz w
  have hfill := (Np _ ps (parts.toList.map (·.1)) _ zv.cells cs (Ot _ _ hp) (by rw [hzc]; exact hb)).1
  have e := Qw ρ parts
  simp only [execOp, ho, Instr.build, Sem.run_bind, hzr, Result.andThen_ok, run_underlying hd, Zt hk w]
  rw [e, hfill]
  rfl
theorem Uy {t el n s : Nat} {z : List Value} {parts : Array (Nat × Operand)} (hd : P.underlying t = some (.array n el)) (hz : zeroAt P t = some z)
  (hs : Bh P el = some s) : Snd P (.build t parts) (.build z (parts.toList.map fun p => (p.1 * s, s))) (parts.toList.map (·.2)) := by
 intro ρ c v hρ h hc o w ho
 simp only [pev] at h
 cases hb : II (parts.toList.map fun p => (p.1 * s, s)) ((parts.toList.map (·.2)).map ρ) z with
 | none => rw [hb] at h; cases h
 | some cs =>
  rw [hb] at h
  simp only [Option.some.injEq, Prod.mk.injEq] at h
  obtain ⟨rfl, rfl⟩ := h
  obtain ⟨zv, hzr, hzc⟩ := Lt hz w
  have hfill := (Np (fun i => some (i * s, s)) (parts.toList.map fun p => (p.1 * s, s)) (parts.toList.map (·.1)) _ zv.cells cs (by simp [Function.comp_def]) (by rw [hzc]; exact hb)).1
  have e := Qw ρ parts
  simp only [execOp, ho, Instr.build, Sem.run_bind, hzr, Result.andThen_ok, run_underlying hd, run_sizeOf hs]
  rw [e, hfill]
  rfl

theorem Xn {op : BinOp} {t : TypeId} {x y : Operand} {t' : TypeId} {pf : PF} {xs : List Operand} (h : Xo P op t x y = some (pf, xs)) : Snd P (.binOp op t x y t') pf xs := by
 unfold Xo at h
 split at h
 ·cases h; exact Aas
 ·cases h; exact Aas
 ·rename_i hd; cases h; exact Ack hd
 ·rename_i d _ _ _ hd
  cases hk : nkOf d with
  | none => rw [hk] at h; cases h
  | some k =>
   rw [hk] at h
   simp only at h
   split at h
   ·split at h
    ·rename_i hy; cases h; exact QT hd hk hy rfl
    ·split at h
     ·rename_i hx; cases h; exact QU hd hk hx rfl
     ·cases h
   ·split at h
    ·rename_i hy; cases h; exact QT hd hk hy rfl
    ·split at h
     ·rename_i hx; cases h; exact QU hd hk hx rfl
     ·cases h
   ·cases h
 ·cases h

theorem SQ {op : Op} {pf : PF} {xs : List Operand} (h : Y2 P op = some (pf, xs)) : Snd P op pf xs := by
 unfold Y2 at h
 split at h
 ·cases h; exact Ach _
 ·cases h; exact Zi _
 ·cases h; exact AdO _ _
 ·cases h; exact AdP _ _
 ·cases h; exact Abk _ _
 ·split at h
  ·rename_i hs hd; cases h; exact Acj hs hd _
  ·rename_i hs hd; cases h; exact Ad0 hs hd _
  ·cases h
 ·cases h; exact AdZ _ _
 ·split at h
  ·rename_i hd
   split at h
   ·rename_i hf
    split at h
    ·rename_i hs hb; cases h; exact AdX hd hf hs hb _
    ·cases h
   ·cases h
  ·cases h
 ·split at h
  ·rename_i hd
   split at h
   ·rename_i hf
    split at h
    ·rename_i hs; cases h; exact AdY hd hf hs _
    ·cases h
   ·cases h
  ·cases h
 ·split at h
  ·rename_i el hd
   cases hs : Bh P el with
   | none => rw [hs] at h; cases h
   | some s => rw [hs] at h; cases h; exact AdT hd hs _ _
  ·rename_i n el hd
   cases hs : Bh P el with
   | none => rw [hs] at h; cases h
   | some s => rw [hs] at h; cases h; exact AdV hd hs _ _
  ·cases h
 ·split at h
  ·rename_i hd
   split at h
   ·rename_i hs hb; cases h; exact AdS hd hs hb _ _
   ·cases h
  ·rename_i hd; cases h; exact AdU hd _ _
  ·cases h
 ·rename_i t x lo hi mx
  split at h
  ·rename_i el hd
   cases hs : Bh P el with
   | none => rw [hs] at h; cases h
   | some s =>
    rw [hs] at h
    cases h
    cases lo <;> cases hi <;> cases mx
    ·exact XB hd hs _
    ·intro ρ c v _ h hc o w ho
     simp only [List.map_cons, List.map_nil, Option.toList, List.append_nil, List.cons_append, List.nil_append, Option.isSome] at h
     simp only [pev, reduceCtorEq] at h
    ·exact XA hd hs _ _
    ·exact Xz hd hs _ _ _
    ·exact Xy hd hs _ _
    ·intro ρ c v _ h hc o w ho
     simp only [List.map_cons, List.map_nil, Option.toList, List.append_nil, List.cons_append, List.nil_append, Option.isSome] at h
     simp only [pev, reduceCtorEq] at h
    ·exact Xx hd hs _ _ _
    ·exact Xw hd hs _ _ _ _
  ·rename_i hd
   split at h
   ·cases h
   ·rename_i hm
    cases mx with
    | some _ => exact absurd rfl hm
    | none =>
     cases h
     cases lo <;> cases hi
     ·exact Zc hd _
     ·exact Zb hd _ _
     ·exact Za hd _ _
     ·exact Y9 hd _ _ _
  ·rename_i n el hd
   split at h
   ·cases h
   ·rename_i hm
    cases mx with
    | some _ => exact absurd rfl hm
    | none =>
     cases hs : Bh P el with
     | none => rw [hs] at h; cases h
     | some s =>
      rw [hs] at h
      cases h
      cases lo <;> cases hi
      ·exact Zg hd hs _
      ·exact Zf hd hs _ _
      ·exact Ze hd hs _ _
      ·exact Zd hd hs _ _ _
  ·cases h
 ·cases h; exact snd_fn _ _ _
 ·split at h
  ·cases h
  ·rename_i hn hd; cases h; exact AdW hd (fun m e => hn m e) _
  ·cases h
 ·cases h; exact Acf _ _ _
 ·cases h; exact Acg _
 ·rename_i t parts
  split at h
  ·rename_i fs z hd hz
   split at h
   ·rename_i hk
    cases hp : placesOf P fs (List.map (fun (x : Nat × Operand) => x.fst) parts.toList) with
    | none => rw [hp] at h; cases h
    | some ps => rw [hp] at h; cases h; exact Qn hd hz hk hp
   ·cases h
  ·rename_i el z hd hz
   cases hs : Bh P el with
   | none => rw [hs] at h; cases h
   | some s => rw [hs] at h; cases h; exact Uy hd hz hs
  ·cases h
 ·split at h
  ·rename_i ha ht; cases h; exact Zh ha ht
  ·rename_i ha ht; cases h; exact Aci ha ht
  ·rename_i ha ht; cases h; exact V7 ha ht
  ·rename_i ha ht
   split at h
   ·rename_i hu; cases h; exact V6 ha ht hu
   ·cases h
  ·cases h
 ·split at h
  ·rename_i ha ht; cases h; exact Ad1 ha ht
  ·cases h
 ·cases h; exact AdR _ _
 ·cases h; exact AdQ _ _
 ·exact Xn h
 ·cases h
end
def Le (n : Nat) (z : List Value) : List Value := (List.range n).map fun i => (z[i % z.length]?).getD default
def MK (P : Program) (o : Oper) : Option MOp :=
 match Y2 P o.op with
 | some (pf, xs) => o.dst.map fun d => .p d pf xs
 | none =>
  match o.op with
  | .load t x => match Jq P t, Bh P t with
   | some true, some n => o.dst.map fun d => .ldn d n x
   | some false, _ => o.dst.map fun d => .ld d x
   | _, _ => none
  | .store t x v => match o.dst, Jq P t, Bh P t with
   | none, some true, some n => some (.st n true x v)
   | none, some false, some 1 => some (.st 1 false x v)
   | _, _, _ => none
  | .convert src dst x => match P.underlying src, P.underlying dst with
   | some (.slice el), some .string => match P.underlying el, o.dst with
    | some (.int .u8), some d => some (.bs d x)
    | _, _ => some (.gen o.dst o)
   | _, _ => some (.gen o.dst o)
  | .alloc t => match o.dst, zeroAt P t with
   | some d, some z => some (.new d t z)
   | _, _ => none
  | .box t v => o.dst.map fun d => .box d t v
  | .buildSlice t len parts => match P.underlying t with
   | some (.slice el) => match o.dst, Bh P el, zeroAt P el with
    | some d, some s, some z => if len * s ≤ 2 ^ 24 ∧ z.length = s then
      some (.bsl d el len (Le (len * s) z) (parts.toList.map fun p => (p.1 * s, s)) (parts.toList.map (·.2))) else none
    | _, _, _ => none
   | _ => none
  | .call { callee := .builtin .append, args, argTypes } => match o.dst, args.toList with
   | some d, [s, x] => some (.app d argTypes o.type s x)
   | _, _ => none
  | .call { callee := .value (.func f), args, argTypes := _ } => if LJ P f then some (.call o.dst f args.toList) else some (.gen o.dst o)
  | .call { callee := .value f, args, argTypes := _ } => some (.callv o.dst f args.toList)
  | .mapUpdate .. | .insert .. | .entryStore .. => match o.dst with
   | none => some (.genu o)
   | some _ => none
  | .go _ | .defer _ | .send .. | .recv .. | .select .. => none
  | _ => some (.gen o.dst o)

def trG (P : Program) (ops : Array Oper) (o : Oper) : Option MOp :=
 match o.guard with
 | none => MK P o
 | some (j, want) => match (ops[j]?).bind (·.dst), MK P o with
  | some g, some m => some (.gd g want o.dst m)
  | _, _ => none
def AaV (n : Nat) (o : Oper) : Bool := match o.dst with
 | some d => decide (d < n)
 | none => true
def SS (P : Program) (n : Nat) (ops : Array Oper) : List Oper → Option (List MOp)
 | [] => some []
 | o :: l => match trG P ops o, SS P n ops l with
  | some m, some ms => if AaV n o then some (m :: ms) else none
  | _, _ => none

section
variable {P : Program} {n : Nat}

theorem EZ (e : Env) (d : Nat) (v : Value) (t : Nat) : AU (GK e d v) t = if d = t then some v else AU e t := by
 induction e with
 | nil => simp [GK, IR, AU]
 | cons p e ih =>
  rw [AbB]
  split
  ·rename_i h
   subst h
   simp only [IR]
   split <;> simp_all
  ·rename_i h
   simp only [IR, ih]
   by_cases h1 : p.1 = t
   ·rw [if_pos h1, if_pos h1, if_neg (by omega)]
   ·rw [if_neg h1, if_neg h1]
theorem ZL (l : List Nat) (e : Env) (t : Nat) (v : Value) (h : AU (Jp l e) t = some v) : AU e t = some v := by
 induction l with
 | nil => simp [Jp, AU] at h
 | cons n l ih =>
  unfold Jp at h
  split at h
  ·rename_i u hu
   simp only [IR] at h
   split at h
   ·rename_i hn; subst hn; rw [← h]; exact hu
   ·exact ih h
  ·exact ih h
theorem Sim.put {e : Env} {a : Act} (h : Sim n e a) {d : Nat} (hd : d < n) (v : Value) : Sim n (GK e d v) (a.put (some d) v) := by
 refine ⟨by simp [Act.put, h.size], h.defers, fun t u hu => ?_⟩
 rw [EZ] at hu
 simp only [Act.put]
 split at hu
 ·rename_i e; subst e
  simp only [Option.some.injEq] at hu
  subst hu
  rw [Array.getElem?_setIfInBounds]
  simp [h.size, hd]
 ·rename_i hne
  rw [Array.getElem?_setIfInBounds_ne hne]
  exact h.val t u hu
theorem Sim.put? {e : Env} {a : Act} (h : Sim n e a) {d : Option Nat} (hd : ∀ x, d = some x → x < n) (v : Value) : Sim n (TN e d v) (a.put d v) := by
 cases d with
 | none => exact h
 | some d => exact h.put (hd d rfl) v
theorem Sim.keep {e : Env} {a : Act} (h : Sim n e a) (l : List Nat) : Sim n (Jp l e) a :=
 ⟨h.size, h.defers, fun t u hu => h.val t u (ZL l e t u hu)⟩
theorem Sim.ev {e : Env} {a : Act} (h : Sim n e a) {x : Operand} {v : Value} (hx : ev e x = some v) : a.eval x = v := by
 cases x with
 | tmp t =>
  have := h.val t v hx
  simp [Act.eval, this]
 | const u => simpa [Sl.ev, Act.eval] using hx
 | global g => simpa [Sl.ev, Act.eval] using hx
 | func f => simpa [Sl.ev, Act.eval] using hx
theorem Sim.evs {e : Env} {a : Act} (h : Sim n e a) : ∀ {xs : List Operand} {vs : List Value}, evs e xs = some vs → xs.map a.eval = vs
 | [], vs, hx => by simp only [Sl.evs, Option.some.injEq] at hx; subst hx; rfl
 | x :: xs, vs, hx => by
  simp only [Sl.evs] at hx
  cases h1 : Sl.ev e x with
  | none => rw [h1] at hx; cases hx
  | some v =>
   cases h2 : Sl.evs e xs with
   | none => rw [h1, h2] at hx; cases hx
   | some vs' =>
    rw [h1, h2] at hx
    simp only [Option.some.injEq] at hx
    subst hx
    simp [h.ev h1, h.evs h2]

def Qc (P : Program) (n : Nat) (o : Oper) (m : MOp) : Prop :=
 ∀ (e : Env) (a : Act) (w : World) (K : Env → World → Prop) (K' : Act → World → Prop) (Q : Exit → Act → World → Prop),
  Sim n e a → (∀ d, o.dst = some d → d < n) → (∀ e' v w', Sim n e' (a.put o.dst v) → K e' w' → K' (a.put o.dst v) w') → m.wp P e w K → o.wp P a w K' Q

theorem EL {o : Oper} {a : Act} {w : World} {K' : Act → World → Prop} {Q : Exit → Act → World → Prop} {v : Value} {w' : World}
  (h : (execOp a.eval o).run P w = .ok (.value v) w') (hk : K' (a.put o.dst v) w') : o.wp P a w K' Q := by
 unfold Oper.wp
 rw [h]
 exact hk
theorem Lj {o : Oper} {a : Act} {w : World} {K' : Act → World → Prop} {Q : Exit → Act → World → Prop} {w' : World}
  (h : (execOp a.eval o).run P w = .ok .skip w') (hk : K' (a.put o.dst undef) w') : o.wp P a w K' Q := by
 unfold Oper.wp
 rw [h]
 exact hk
theorem Kz {o : Oper} {a : Act} {w w' : World} {K' : Act → World → Prop} {Q : Exit → Act → World → Prop} {f : FuncId} {args : Array Value}
  (h : (execOp a.eval o).run P w = .ok (.enter f args) w') (hk : Calls P f args w' fun e w'' => ∃ v, e = .returned v ∧ K' (a.put o.dst v) w'') : o.wp P a w K' Q := by
 unfold Oper.wp
 rw [h]
 refine hk.mono fun e w'' ⟨v, he, hv⟩ => ?_
 subst he
 exact hv

theorem ok_p {o : Oper} {d : Nat} {pf : PF} {xs : List Operand} (h : Y2 P o.op = some (pf, xs)) (hd : o.dst = some d) : Qc P n o (.p d pf xs) := by
 intro e a w K K' Q hs hlt hk h0
 simp only [MOp.wp] at h0
 cases h1 : evs e xs with
 | none => rw [h1] at h0; exact h0.elim
 | some vs =>
  rw [h1] at h0
  simp only at h0
  cases h2 : pev pf vs with
  | none => rw [h2] at h0; exact h0.elim
  | some cv =>
   obtain ⟨c, v⟩ := cv
   rw [h2] at h0
   obtain ⟨hc, hK⟩ := h0
   have := SQ h a.eval c v (fun _ => rfl) (by rw [hs.evs h1]; exact h2) hc o w rfl
   refine EL this (hk _ _ _ ?_ hK)
   rw [hd]
   exact hs.put (hlt d hd) v

theorem run_loadCellsFrom (vs : List Value) : ∀ (a : Addr) (i : Nat) (acc : Array Value) (w : World), (∀ j u, vs[j]? = some u → w.cell? (a.add (i + j)) = some u) →
  (loadCellsFrom a i vs.length acc).run P w = .ok (acc ++ vs.toArray) w := by
 induction vs with
 | nil => intro a i acc w h; simp [loadCellsFrom]
 | cons v vs ih =>
  intro a i acc w h
  have h0 := h 0 v rfl
  simp only [Nat.add_zero] at h0
  simp only [List.length_cons, loadCellsFrom, Sem.run_bind, run_load, h0, Result.andThen_ok]
  rw [ih a (i + 1) _ w (fun j u hu => by have := h (j + 1) u (by simpa using hu); rwa [Nat.add_assoc, Nat.add_comm 1 j])]
  simp

theorem ok_ld {o : Oper} {d : Nat} {t : TypeId} {x : Operand} (ho : o.op = .load t x) (ha : Jq P t = some false) (hd : o.dst = some d) : Qc P n o (.ld d x) := by
 intro e a w K K' Q hs hlt hk h0
 simp only [MOp.wp] at h0
 split at h0
 ·rename_i ad hx
  obtain ⟨v, hv, hK⟩ := h0
  have hr : (execOp a.eval o).run P w = .ok (.value v) w := by
   simp [execOp, ho, hs.ev hx, Instr.loadAt, Instr.sureAddr, loadVar, Fe ha, hv]
  refine EL hr (hk _ _ _ ?_ hK)
  rw [hd]; exact hs.put (hlt d hd) v
 ·exact h0.elim
theorem Xu (l : List UInt8) : strOfNums (l.map fun b => (b.toNat : Int)) = ⟨l.toArray⟩ := by
 simp only [strOfNums, List.map_map]
 congr 2
 conv => rhs; rw [← List.map_id l]
 apply List.map_congr_left
 intro b _
 simp
theorem Acu {src dst el : TypeId} (hs : P.underlying src = some (.slice el)) (he : P.underlying el = some (.int .u8)) (hd : P.underlying dst = some .string) {w : World} {a : Option Addr} {c : Nat} {l : List UInt8}
  (h : ∀ j b, l[j]? = some b → ∃ ad, a = some ad ∧ w.cell? (ad.add j) = some (.int .u8 b.toNat)) : (convert src dst (.slice a l.length c)).run P w = .ok (.string ⟨l.toArray⟩) w := by
 rcases l with _ | ⟨b, l⟩
 ·rw [run_convert_bytes_string w src dst el _ _ c hs he hd]
  cases a <;> simp [Conv.bytesToString, loadCells, loadCellsFrom] <;> rfl
 ·obtain ⟨ad, ha, h0⟩ := h 0 b rfl
  subst ha
  have hsp : ad.spot = none := by
   have : ad.add 0 = ad := by simp [Addr.add]
   rw [this] at h0
   cases hx : ad.spot with
   | none => rfl
   | some s =>
    simp only [World.cell?, hx, Option.isSome_some, if_true] at h0
    split at h0 <;> cases h0
  obtain ⟨g, off, sp⟩ := ad
  simp only at hsp
  subst hsp
  have := run_convert_bytes_arg (P := P) w src el hs he g off (b :: l).length c ((b :: l).map fun b => (b.toNat : Int)) (by simp) (fun i hi => ?_) dst hd
  ·rw [Xu] at this; exact this
  ·have hb : (b :: l)[i]? = some (b :: l)[i] := by rw [List.getElem?_eq_getElem hi]
   obtain ⟨ad', e, hc⟩ := h i _ hb
   cases e
   have hadd : (⟨g, off, none⟩ : Addr).add i = ⟨g, off + i, none⟩ := by unfold Addr.add; split <;> simp_all
   rw [← hadd, hc]
   congr 2
   rw [List.getD_eq_getElem?_getD, List.getElem?_map, hb]
   rfl
theorem ok_bs {o : Oper} {d : Nat} {src dst el : TypeId} {x : Operand} (ho : o.op = .convert src dst x) (hs : P.underlying src = some (.slice el)) (hd : P.underlying dst = some .string)
  (he : P.underlying el = some (.int .u8)) (hdst : o.dst = some d) : Qc P n o (.bs d x) := by
 intro e a w K K' Q hsim hlt hk h0
 simp only [MOp.wp] at h0
 split at h0
 ·rename_i ad m c hx
  obtain ⟨l, hl, hv, hK⟩ := h0
  subst hl
  have hr : (execOp a.eval o).run P w = .ok (.value (.string ⟨l.toArray⟩)) w := by
   simp [execOp, ho, hsim.ev hx, Acu hs he hd hv]
  refine EL hr (hk _ _ _ ?_ hK)
  rw [hdst]; exact hsim.put (hlt d hdst) _
 ·exact h0.elim
theorem ok_ldn {o : Oper} {d m : Nat} {t : TypeId} {x : Operand} (ho : o.op = .load t x) (ha : Jq P t = some true) (hn : Bh P t = some m) (hd : o.dst = some d) : Qc P n o (.ldn d m x) := by
 intro e a w K K' Q hs hlt hk h0
 simp only [MOp.wp] at h0
 split at h0
 ·rename_i ad hx
  obtain ⟨vs, hl, hv, hK⟩ := h0
  subst hl
  have hr : (execOp a.eval o).run P w = .ok (.value (.agg vs.toArray)) w := by
   simp [execOp, ho, hs.ev hx, Instr.loadAt, Instr.sureAddr, loadVar, Fe ha, run_sizeOf hn, loadCells, run_loadCellsFrom vs ad 0 #[] w (by simpa using hv)]
  refine EL hr (hk _ _ _ ?_ hK)
  rw [hd]; exact hs.put (hlt d hd) _
 ·exact h0.elim
theorem ok_st {o : Oper} {m : Nat} {agg : Bool} {t : TypeId} {x v : Operand} (ho : o.op = .store t x v) (ha : Jq P t = some agg) (hn : Bh P t = some m) (h1 : agg = false → m = 1) (hd : o.dst = none) :
  Qc P n o (.st m agg x v) := by
 intro e a w K K' Q hs hlt hk h0
 simp only [MOp.wp] at h0
 split at h0
 ·rename_i ad u hx hv
  cases agg with
  | true =>
   cases u <;> simp only at h0 <;> first | exact h0.elim | skip
   rename_i cs
   obtain ⟨hsz, w', hr, hK⟩ := h0
   have hr' : (execOp a.eval o).run P w = .ok .skip w' := by
    simp [execOp, ho, hs.ev hx, hs.ev hv, Instr.storeAt, Instr.sureAddr, storeVar, run_sizeOf hn, Value.cells, hsz, hr]
   refine Lj hr' (hk _ _ _ ?_ hK)
   rw [hd]; exact hs
  | false =>
   have hm := h1 rfl
   subst hm
   have h2 : Chk (u.oneCell' = true) (Stn w ad [u] (fun w' => K e w') (.mk _)) (.mk _) := by
    cases u <;> exact h0
   obtain ⟨hone, w', hr, hK⟩ := h2
   have hc : u.cells = #[u] := by cases u <;> first | rfl | (simp [Value.oneCell'] at hone)
   have hr' : (execOp a.eval o).run P w = .ok .skip w' := by
    simp [execOp, ho, hs.ev hx, hs.ev hv, Instr.storeAt, Instr.sureAddr, storeVar, run_sizeOf hn, hc, hr]
   refine Lj hr' (hk _ _ _ ?_ hK)
   rw [hd]; exact hs
 ·exact h0.elim
theorem ok_new {o : Oper} {d : Nat} {t : TypeId} {z : List Value} (ho : o.op = .alloc t) (hz : zeroAt P t = some z) (hd : o.dst = some d) : Qc P n o (.new d t z) := by
 intro e a w K K' Q hs hlt hk h0
 obtain ⟨zv, hzr, hzc⟩ := Lt hz w
 have hzz : zv.cells = z.toArray := by rw [← hzc]
 have hr : (execOp a.eval o).run P w = .ok (.value (.pointer (some ⟨w.heap.size, 0, none⟩))) (w.alloc (.cells z.toArray t)) := by
  simp [execOp, ho, Instr.alloc, hzr, newVar, newRow, hzz]
 refine EL hr (hk _ _ _ ?_ h0)
 rw [hd]; exact hs.put (hlt d hd) _
theorem ok_box {o : Oper} {d : Nat} {t : TypeId} {v : Operand} (ho : o.op = .box t v) (hd : o.dst = some d) : Qc P n o (.box d t v) := by
 intro e a w K K' Q hs hlt hk h0
 simp only [MOp.wp] at h0
 split at h0
 ·rename_i u hu
  have hr : (execOp a.eval o).run P w = .ok (.value (.pointer (some ⟨w.heap.size, 0, none⟩))) (w.alloc (.cells u.cells t)) := by
   simp [execOp, ho, Instr.box, newVar, newRow, hs.ev hu]
  refine EL hr (hk _ _ _ ?_ h0)
  rw [hd]; exact hs.put (hlt d hd) _
 ·exact h0.elim
theorem Xd (m : Nat) (z : List Value) : (Array.range m).map (fun i => z.toArray[i % z.toArray.size]!) = (Le m z).toArray := by
 apply Array.toList_inj.1
 simp only [Array.toList_map, Array.toList_range, Le, List.size_toArray]
 apply List.map_congr_left
 intro i _
 simp only [getElem!_def, List.getElem?_toArray, List.size_toArray]
 cases z[i % z.length]? <;> rfl
theorem ok_bsl {o : Oper} {d len s : Nat} {t el : TypeId} {z : List Value} {parts : Array (Nat × Operand)} (ho : o.op = .buildSlice t len parts) (hu : P.underlying t = some (.slice el))
  (hsz : Bh P el = some s) (hz : zeroAt P el = some z) (hl : len * s ≤ 2 ^ 24) (hd : o.dst = some d) :
  Qc P n o (.bsl d el len (Le (len * s) z) (parts.toList.map fun p => (p.1 * s, s)) (parts.toList.map (·.2))) := by
 intro e a w K K' Q hs hlt hk h0
 simp only [MOp.wp] at h0
 split at h0
 ·rename_i vs hvs
  split at h0
  ·rename_i cs hb
   obtain ⟨zv, hzr, hzc⟩ := Lt hz w
   have hzz : zv.cells = z.toArray := by rw [← hzc]
   have hlt' : ¬ len * s > 2 ^ 24 := by omega
   have e1 := Qw a.eval parts
   have hfill := (Np (fun i => some (i * s, s)) (parts.toList.map fun p => (p.1 * s, s)) (parts.toList.map (·.1)) vs (Le (len * s) z).toArray cs (by simp [Function.comp_def]) hb).1
   have hr : (execOp a.eval o).run P w = .ok (.value (.slice (some ⟨w.heap.size, 0, none⟩) len len)) (w.alloc (.cells cs.toArray el)) := by
    simp only [execOp, ho, Instr.buildSlice, Sem.run_bind, run_underlying hu, Result.andThen_ok, run_sizeOf hsz, Sem.run_ite, hlt', if_false, Sem.run_pure]
    by_cases h0 : len * s = 0
    ·simp only [h0, if_true, Result.andThen_ok, Sem.run_pure]
     have hx : (Le (len * s) z).toArray = #[] := by simp [h0, Le]
     rw [hx] at hfill
     rw [e1, hs.evs hvs]
     have hr0 : Array.map (fun x => (#[] : Array Value)[x % (#[] : Array Value).size]!) (Array.range 0) = #[] := by simp
     rw [hr0, hfill]
     simp only [newRow, Sem.run_bind, run_newObj, Result.andThen_ok, Sem.run_pure, World.alloc]
    ·simp only [h0, if_false, hzr, Result.andThen_ok, Sem.run_pure, hzz]
     rw [e1, hs.evs hvs, Xd, hfill]
     simp only [newRow, Sem.run_bind, run_newObj, Result.andThen_ok, Sem.run_pure, World.alloc]
   refine EL hr (hk _ _ _ ?_ h0)
   rw [hd]; exact hs.put (hlt d hd) _
  ·exact h0.elim
 ·exact h0.elim

theorem ok_app {o : Oper} {d : Nat} {ats : Array TypeId} {args : Array Operand} {s x : Operand} (ho : o.op = .call { callee := .builtin .append, args, argTypes := ats })
  (ha : args.toList = [s, x]) (hd : o.dst = some d) : Qc P n o (.app d ats o.type s x) := by
 intro e a w K K' Q hs hlt hk h0
 obtain ⟨args⟩ := args
 simp only at ha
 subst ha
 simp only [MOp.wp] at h0
 split at h0
 ·rename_i u v hu hv
  obtain ⟨r, w', hr, hK⟩ := h0
  have hr' : (execOp a.eval o).run P w = .ok (.value r) w' := by
   simp [execOp, ho, resolve, invoke, builtin, hs.ev hu, hs.ev hv, hr]
  refine EL hr' (hk _ _ _ ?_ hK)
  rw [hd]; exact hs.put (hlt d hd) _
 ·exact h0.elim
theorem Pv {f : FuncId} (h : LJ P f = true) (args : Array Value) (w : World) : (callFunc f args).run P w = .ok (.enter f args) w := by
 unfold LJ at h
 cases hf : P.funcs[f]? with
 | none => rw [hf] at h; cases h
 | some fn =>
  rw [hf] at h
  simp only [Bool.and_eq_true, Bool.not_eq_true', beq_eq_false_iff_ne, ne_eq] at h
  have hb : fn.body.isNone = false := by cases hb : fn.body <;> simp_all
  have h2 : (fn.name == "runtime.NumGoroutine") = false := by simpa using h.2
  simp only [callFunc, Sem.run_bind, run_program, Result.andThen_ok, hf, h2, hb, Bool.false_eq_true, if_false, Sem.run_pure]
theorem Aeh {o : Oper} {f : FuncId} {args : Array Operand} {ats : Array TypeId} (ho : o.op = .call { callee := .value (.func f), args, argTypes := ats }) (hb : LJ P f = true) :
  Qc P n o (.call o.dst f args.toList) := by
 intro e a w K K' Q hs hlt hk h0
 simp only [MOp.wp] at h0
 split at h0
 ·rename_i vs hvs
  have hm : args.map a.eval = vs.toArray := by
   apply Array.toList_inj.1
   simp [hs.evs hvs]
  have hr' : (execOp a.eval o).run P w = .ok (.enter f vs.toArray) w := by
   simp [execOp, ho, resolve, invoke, Act.eval, Deferred.ofValue, Pv hb]
   exact hm
  refine Kz hr' (h0.mono fun e' w' ⟨v, he, hK⟩ => ⟨v, he, hk _ _ _ (hs.put? hlt v) hK⟩)
 ·exact h0.elim
theorem AcL {o : Oper} {f : Operand} {args : Array Operand} {ats : Array TypeId} (ho : o.op = .call { callee := .value f, args, argTypes := ats }) :
  Qc P n o (.callv o.dst f args.toList) := by
 intro e a w K K' Q hs hlt hk h0
 simp only [MOp.wp] at h0
 split at h0
 ·rename_i g first captured vs hf hvs
  obtain ⟨hb, h1⟩ := h0
  have hm : args.map a.eval = vs.toArray := by
   apply Array.toList_inj.1
   simp [hs.evs hvs]
  have hr' : (execOp a.eval o).run P w = .ok (.enter g (first ++ vs.toArray ++ captured)) w := by
   simp only [execOp, ho, resolve, hs.ev hf, Deferred.ofValue, Sem.run_bind, Sem.run_pure, Result.andThen_ok, invoke, hm, Pv hb]
  refine Kz hr' (h1.mono fun e' w' ⟨v, he, hK⟩ => ⟨v, he, hk _ _ _ (hs.put? hlt v) hK⟩)
 ·exact h0.elim
theorem QA {e : Env} {a : Act} (hs : Sim n e a) : ∀ {xs : List Operand}, known e xs = true → ∀ x ∈ xs, rho e x = a.eval x
 | [], _, x, hx => by cases hx
 | y :: xs, h, x, hx => by
  simp only [known, Bool.and_eq_true] at h
  rcases List.mem_cons.1 hx with rfl | hx
  ·obtain ⟨v, hv⟩ := Option.isSome_iff_exists.1 h.1
   simp [rho, hv, hs.ev hv]
  ·exact QA hs h.2 x hx
theorem Wp {o : Oper} (hsel : ∀ cs b, o.op ≠ .select cs b) : Qc P n o (.gen o.dst o) := by
 intro e a w K K' Q hs hlt hk h0
 simp only [MOp.wp] at h0
 split at h0
 ·rename_i hkn
  have hx : execOp (rho e) o = execOp a.eval o := execOp_congr o hsel (fun x hx => QA hs hkn x (by simpa using hx))
  rw [hx] at h0
  rcases h0 with ⟨v, w', hr, hK⟩ | ⟨f, args, w', hr, hc⟩
  ·exact EL hr (hk _ _ _ (hs.put? hlt v) hK)
  ·exact Kz hr (hc.mono fun e' w'' ⟨v, he, hK⟩ => ⟨v, he, hk _ _ _ (hs.put? hlt v) hK⟩)
 ·exact h0.elim
theorem Wn {o : Oper} (hsel : ∀ cs b, o.op ≠ .select cs b) (hd : o.dst = none) : Qc P n o (.genu o) := by
 intro e a w K K' Q hs hlt hk h0
 simp only [MOp.wp] at h0
 split at h0
 ·rename_i hkn
  have hx : execOp (rho e) o = execOp a.eval o := execOp_congr o hsel (fun x hx => QA hs hkn x (by simpa using hx))
  rw [hx] at h0
  obtain ⟨w', hr, hK⟩ := h0
  refine Lj hr (hk _ _ _ ?_ hK)
  rw [hd]; exact hs
 ·exact h0.elim

theorem Ll {o : Oper} {m : MOp} (h : MK P o = some m) : Qc P n o m := by
 unfold MK at h
 split at h
 ·rename_i pf xs hp
  cases hd : o.dst with
  | none => rw [hd] at h; cases h
  | some d => rw [hd] at h; cases h; exact ok_p hp hd
 ·split at h
  ·rename_i t x ho
   split at h
   ·rename_i m' ha hn
    cases hd : o.dst with
    | none => rw [hd] at h; cases h
    | some d => rw [hd] at h; cases h; exact ok_ldn ho ha hn hd
   ·rename_i ha
    cases hd : o.dst with
    | none => rw [hd] at h; cases h
    | some d => rw [hd] at h; cases h; exact ok_ld ho ha hd
   ·cases h
  ·rename_i t x v ho
   split at h
   ·rename_i hd ha hn; cases h; exact ok_st ho ha hn (fun e => by cases e) hd
   ·rename_i hd ha hn; cases h; exact ok_st ho ha hn (fun _ => rfl) hd
   ·cases h
  ·rename_i src dst x ho
   split at h
   ·rename_i el hs hd
    split at h
    ·rename_i he hdst; cases h; exact ok_bs ho hs hd he hdst
    ·cases h; exact Wp (fun cs b e => by rw [ho] at e; cases e)
   ·cases h; exact Wp (fun cs b e => by rw [ho] at e; cases e)
  ·rename_i t ho
   split at h
   ·rename_i hd hz; cases h; exact ok_new ho hz hd
   ·cases h
  ·rename_i t v ho
   cases hd : o.dst with
   | none => rw [hd] at h; cases h
   | some d => rw [hd] at h; cases h; exact ok_box ho hd
  ·rename_i t len parts ho
   split at h
   ·rename_i el hu
    split at h
    ·rename_i hd hs hz
     split at h
     ·rename_i hl; cases h; exact ok_bsl ho hu hs hz hl.1 hd
     ·cases h
    ·cases h
   ·cases h
  ·rename_i args ats ho
   split at h
   ·rename_i hd ha; cases h; exact ok_app ho ha hd
   ·cases h
  ·rename_i f args ats ho
   split at h
   ·rename_i hb; cases h; exact Aeh ho hb
   ·cases h; exact Wp (fun cs b e => by rw [ho] at e; cases e)
  ·rename_i f args ats hne ho; cases h; exact AcL ho
  ·rename_i ho
   split at h
   ·rename_i hd; cases h; exact Wn (fun cs b e => by rw [ho] at e; cases e) hd
   ·cases h
  ·rename_i ho
   split at h
   ·rename_i hd; cases h; exact Wn (fun cs b e => by rw [ho] at e; cases e) hd
   ·cases h
  ·rename_i ho
   split at h
   ·rename_i hd; cases h; exact Wn (fun cs b e => by rw [ho] at e; cases e) hd
   ·cases h
  ·cases h
  ·cases h
  ·cases h
  ·cases h
  ·cases h
  ·rename_i h1 h2 h3 h4 h5 h6 h7 h8 h9 h10 h11 h12 h13 h14 h15 h16 h17
   cases h
   exact Wp (fun cs b e => h17 cs b e)
end
def FI (ops : Array Oper) (i : Nat) : Option Nat := (ops[i]?).bind (·.dst)
def looks (ops : Array Oper) (k : Nat) : List Nat := match ops[k]? with
 | some o => o.looksAt ops
 | none => []
def edge (ops : Array Oper) (j k : Nat) : Bool := match ops[j]? with
 | some o => o.after.any fun e => Region.binds .any e && e.on == k
 | none => false
def PH (ops : Array Oper) (i k : Nat) : Bool := match FI ops i with
 | some d => !(looks ops k).contains d
 | none => true
def Ti (ops : Array Oper) (i : Nat) : Bool := match FI ops i with
 | none => false
 | some d => !(looks ops i).contains d && (List.range ops.size).all fun j => j == i || (FI ops j != some d && (!(looks ops j).contains d || edge ops j i))
inductive Sch where
 | nil
 | take (i : Nat) (s : Sch)
 | act (i : Nat) (s : Sch)
 | alt (i : Nat) (s : Sch) (j : Nat) (t : Sch)
def Aa6 (ops : Array Oper) (i : Nat) (pend : List Nat) : Bool := pend.all (fun k => edge ops i k || PH ops i k)
def Dj (ops : Array Oper) : Sch → List Nat → Array Bool → Bool
 | .nil, _, L => (Region.ready .any ops L).isEmpty
 | .take i s, pend, L => (Region.ready .any ops L).contains i && Ti ops i && pend.all (fun k => PH ops i k) && Dj ops s (i :: pend) (L.setIfInBounds i true)
 | .act i s, pend, L => (Region.ready .any ops L == [i]) && Aa6 ops i pend && Dj ops s (pend.filter fun k => !edge ops i k) (L.setIfInBounds i true)
 | .alt i s j t, pend, L => (Region.ready .any ops L == [i, j]) && (Aa6 ops i pend && Dj ops s (pend.filter fun k => !edge ops i k) (L.setIfInBounds i true)) &&
   (Aa6 ops j pend && Dj ops t (pend.filter fun k => !edge ops j k) (L.setIfInBounds j true))

section
variable {P : Program} {ops : Array Oper}

def YA (P : Program) (ops : Array Oper) (i : Nat) (v : Value) (a : Act) (w : World) : Prop :=
 ∃ o, ops[i]? = some o ∧ ((Region.wanted o (yielded ops a.tmps) = true ∧ (execOp a.eval o).run P w = .ok (.value v) w) ∨ (Region.wanted o (yielded ops a.tmps) = false ∧ v = undef))

def CW (P : Program) (ops : Array Oper) (Q : Exit → Act → World → Prop) : Sch → List (Nat × Value) → Act → World → Prop
 | .nil, _, a, w => Q .normal a w
 | .take i s, pend, a, w => ∃ v, YA P ops i v a w ∧ CW P ops Q s ((i, v) :: pend) (a.put (FI ops i) v) w
 | .act i s, pend, a, w => wpOp P ops Q i (fun a' w' => (∀ k ∈ pend, edge ops i k.1 = false → YA P ops k.1 k.2 a' w') ∧
   CW P ops Q s (pend.filter fun k => !edge ops i k.1) a' w') a w
 | .alt i s j t, pend, a, w => wpOp P ops Q i (fun a' w' => (∀ k ∈ pend, edge ops i k.1 = false → YA P ops k.1 k.2 a' w') ∧
   CW P ops Q s (pend.filter fun k => !edge ops i k.1) a' w') a w ∧ wpOp P ops Q j (fun a' w' => (∀ k ∈ pend, edge ops j k.1 = false → YA P ops k.1 k.2 a' w') ∧
   CW P ops Q t (pend.filter fun k => !edge ops j k.1) a' w') a w

def Agree (ops : Array Oper) (k : Nat) (a b : Act) : Prop := a.tmps.size = b.tmps.size ∧ ∀ t ∈ looks ops k, a.tmps[t]? = b.tmps[t]?

theorem Agree.eval {k : Nat} {o : Oper} {a b : Act} (ho : ops[k]? = some o) (h : Agree ops k a b) : ∀ x ∈ o.op.operands, a.eval x = b.eval x := by
 intro x hx
 cases x with
 | tmp t =>
  have : t ∈ looks ops k := by
   unfold looks
   rw [ho]
   exact List.mem_append_left _ (List.mem_filterMap.2 ⟨.tmp t, by simpa using hx, rfl⟩)
  simp [Act.eval, h.2 t this]
 | _ => rfl
theorem Agree.wanted {k : Nat} {o : Oper} {a b : Act} (ho : ops[k]? = some o) (h : Agree ops k a b) :
  Region.wanted o (yielded ops a.tmps) = Region.wanted o (yielded ops b.tmps) := by
 unfold Region.wanted
 cases hg : o.guard with
 | none => rfl
 | some gw =>
  obtain ⟨g, want⟩ := gw
  have hy : yielded ops a.tmps g = yielded ops b.tmps g := by
   unfold yielded
   cases ht : (ops[g]?).bind (·.dst) with
   | none => rfl
   | some t =>
    have : t ∈ looks ops k := by
     unfold looks
     rw [ho]
     refine List.mem_append_right _ ?_
     simp only [hg, ht, Option.toList, List.mem_cons, List.not_mem_nil, or_false]
    simp [h.2 t this]
  simp only [hy]
theorem Agree.exec {k : Nat} {o : Oper} {a b : Act} (ho : ops[k]? = some o) (hsel : ∀ cs b, o.op ≠ .select cs b) (h : Agree ops k a b) : execOp a.eval o = execOp b.eval o :=
 execOp_congr o hsel (h.eval ho)
theorem YA.agree {k : Nat} {v : Value} {a b : Act} {w : World} (hsel : ∀ (o : Oper) cs b, ops[k]? = some o → o.op ≠ .select cs b) (h : Agree ops k a b) (hy : YA P ops k v a w) : YA P ops k v b w := by
 obtain ⟨o, ho, h1⟩ := hy
 refine ⟨o, ho, ?_⟩
 rw [← h.wanted ho, ← h.exec ho (fun cs b => hsel o cs b ho)]
 exact h1
theorem YA.wpOp {Q : Exit → Act → World → Prop} {i : Nat} {v : Value} {a : Act} {w : World} {K : Act → World → Prop} (hy : YA P ops i v a w) (h : K (a.put (FI ops i) v) w) : wpOp P ops Q i K a w := by
 obtain ⟨o, ho, hy⟩ := hy
 unfold Go.wpOp
 simp only [ho]
 have hd : FI ops i = o.dst := by simp [FI, ho]
 rw [hd] at h
 rcases hy with ⟨hw, hv⟩ | ⟨hw, rfl⟩
 ·simp only [hw, if_true, Oper.wp, hv, Oper.upon]; exact .inl h
 ·simp only [hw, Bool.false_eq_true, if_false]; exact h

theorem GU (a : Act) (d : Option Nat) (v : Value) : (a.put d v).tmps.size = a.tmps.size := by cases d <;> simp [Act.put]
theorem Kq (a : Act) (d : Option Nat) (v : Value) : (a.put d v).defers = a.defers := by cases d <;> rfl
theorem LC (a : Act) (d : Option Nat) (v : Value) (t : Nat) (h : d ≠ some t) : (a.put d v).tmps[t]? = a.tmps[t]? := by
 cases d with
 | none => rfl
 | some d => simp only [Act.put]; rw [Array.getElem?_setIfInBounds_ne (fun e => h (by rw [e]))]
theorem Na (a : Act) (d : Nat) (v : Value) (h : d < a.tmps.size) : (a.put (some d) v).tmps[d]? = some v := by
 simp [Act.put, Array.getElem?_setIfInBounds, h]
theorem La (k : Nat) (a : Act) (d : Option Nat) (v : Value) (h : ∀ t, d = some t → t ∉ looks ops k) : Agree ops k a (a.put d v) :=
 ⟨(GU a d v).symm, fun t ht => (LC a d v t (fun e => h t e ht)).symm⟩
theorem OC {i k : Nat} (h : PH ops i k = true) : ∀ t, FI ops i = some t → t ∉ looks ops k := by
 intro t ht
 unfold PH at h
 rw [ht] at h
 simpa using h
theorem JJ {i : Nat} (h : Ti ops i = true) : ∃ d, FI ops i = some d ∧ d ∉ looks ops i ∧ ∀ j, j < ops.size → j ≠ i → FI ops j ≠ some d ∧ (d ∈ looks ops j → edge ops j i = true) := by
 unfold Ti at h
 split at h
 ·cases h
 ·rename_i d hd
  rw [Bool.and_eq_true] at h
  refine ⟨d, hd, by simpa using h.1, fun j hj hne => ?_⟩
  have := List.all_eq_true.1 h.2 j (List.mem_range.2 hj)
  simp only [Bool.or_eq_true, beq_iff_eq, hne, false_or, Bool.and_eq_true, bne_iff_ne, ne_eq, Bool.not_eq_true', List.contains_eq_mem, decide_eq_false_iff_not] at this
  exact ⟨this.1, fun hm => this.2.resolve_left (fun hn => hn hm)⟩
theorem Oq {j k : Nat} {L : Array Bool} (hj : j ∈ Region.ready .any ops L) (hk : L.getD k true = false) : edge ops j k = false := by
 obtain ⟨_, o, ho, hall⟩ := mem_ready.1 hj
 unfold edge
 rw [ho]
 simp only [Array.any_eq_false']
 intro e he
 simp only [Bool.and_eq_true, beq_iff_eq, not_and]
 intro hb heq
 have := hall e he hb
 rw [heq] at this
 rcases Nat.lt_or_ge k L.size with h' | h'
 ·simp [h'] at hk this; rw [hk] at this; cases this
 ·simp [Array.getElem?_eq_none h'] at this

structure Rel (P : Program) (ops : Array Oper) (pend U : List (Nat × Value)) (Lc Lr : Array Bool) (ac ar : Act) (w : World) : Prop where
 sub : ∀ k ∈ U, k ∈ pend
 size : Lc.size = Lr.size
 list : ∀ j, Lc.getD j true = (Lr.getD j true || (U.map (·.1)).contains j)
 un : ∀ k ∈ U, Lr.getD k.1 true = false
 ya : ∀ k ∈ U, YA P ops k.1 k.2 ac w
 tsize : ac.tmps.size = ar.tmps.size
 defers : ac.defers = ar.defers
 same : ∀ t, (∀ k ∈ U, FI ops k.1 ≠ some t) → ar.tmps[t]? = ac.tmps[t]?
 has : ∀ k ∈ U, ∀ d, FI ops k.1 = some d → d < ac.tmps.size → ac.tmps[d]? = some k.2
 ssa : ∀ k ∈ U, Ti ops k.1 = true

def cnt (L : Array Bool) : Nat := L.count false
theorem Md {L : Array Bool} {j : Nat} (h : L.getD j true = false) : cnt (L.setIfInBounds j true) + 1 = cnt L := by
 have hj : j < L.size := by
  rcases Nat.lt_or_ge j L.size with h' | h'
  ·exact h'
  ·simp [Array.getElem?_eq_none h'] at h
 have hv : L[j] = false := by simpa [hj] using h
 unfold cnt
 rw [Array.setIfInBounds, dif_pos hj, Array.count_set hj]
 simp only [hv, beq_self_eq_true, if_true]
 have : 0 < Array.count false L := Array.count_pos_iff.2 (by rw [← hv]; exact Array.getElem_mem hj)
 simp
 omega

theorem Rel.done {pend : List (Nat × Value)} {Lc Lr : Array Bool} {ac ar : Act} {w : World} (h : Rel P ops pend [] Lc Lr ac ar w) : ar = ac := by
 obtain ⟨t1, d1⟩ := ac
 obtain ⟨t2, d2⟩ := ar
 have h1 := h.defers
 have h2 := h.tsize
 have h3 := h.same
 simp only at h1 h2 h3
 subst h1
 congr 1
 apply Array.ext_getElem?
 intro t
 exact h3 t (by simp)

theorem YA.lt {i : Nat} {v : Value} {a : Act} {w : World} (h : YA P ops i v a w) : i < ops.size := by
 obtain ⟨o, ho, _⟩ := h
 exact (Array.getElem?_eq_some_iff.1 ho).1
theorem JU (L : Array Bool) (i j : Nat) (hi : i < L.size) : (L.setIfInBounds i true).getD j true = (L.getD j true || j == i) := by
 by_cases h : i = j
 ·subst h; simp [hi]
 ·rw [getD_set_ne true h]
  have : (j == i) = false := by simpa using fun e => h e.symm
  simp only [this, Bool.or_false]
theorem FY {L : Array Bool} {j : Nat} (h : L.getD j true = false) : j < L.size := by
 rcases Nat.lt_or_ge j L.size with h' | h'
 ·exact h'
 ·simp [Array.getElem?_eq_none h'] at h

theorem Rel.agree {pend U : List (Nat × Value)} {Lc Lr : Array Bool} {ac ar : Act} {w : World} (h : Rel P ops pend U Lc Lr ac ar w) {j : Nat}
  (hj : j ∈ Region.ready .any ops Lr) : Agree ops j ac ar := by
 refine ⟨h.tsize, fun t ht => (h.same t fun k hk e => ?_).symm⟩
 obtain ⟨d, hd, hself, hall⟩ := JJ (h.ssa k hk)
 rw [hd] at e
 cases e
 by_cases hkj : k.1 = j
 ·subst hkj; exact hself ht
 ·have hjlt : j < ops.size := by
   obtain ⟨_, o, ho, _⟩ := mem_ready.1 hj
   exact (Array.getElem?_eq_some_iff.1 ho).1
  have h1 := (hall j hjlt (fun e => hkj e.symm)).2 ht
  rw [Oq hj (h.un k hk)] at h1
  cases h1

theorem Rel.take {pend U : List (Nat × Value)} {Lc Lr : Array Bool} {ac ar : Act} {w : World} (hsel : ∀ (k : Nat) (o : Oper) cs b, ops[k]? = some o → o.op ≠ .select cs b)
  (h : Rel P ops pend U Lc Lr ac ar w) {i : Nat} {v : Value}
  (hr : i ∈ Region.ready .any ops Lc) (hs : Ti ops i = true) (hp : ∀ k ∈ pend, PH ops i k.1 = true) (hy : YA P ops i v ac w) :
  Rel P ops ((i, v) :: pend) ((i, v) :: U) (Lc.setIfInBounds i true) Lr (ac.put (FI ops i) v) ar w := by
 obtain ⟨d, hd, hself, hall⟩ := JJ hs
 have hui : Lc.getD i true = false := (mem_ready.1 hr).1
 have hli := h.list i
 rw [hui] at hli
 have hri : Lr.getD i true = false := by
  cases hx : Lr.getD i true
  ·rfl
  ·rw [hx] at hli; simp at hli
 have hnU : ∀ k ∈ U, k.1 ≠ i := by
  intro k hk e
  rw [hri] at hli
  simp only [Bool.false_or] at hli
  have : (U.map (·.1)).contains i = true := by simp only [List.contains_iff_mem, List.mem_map]; exact ⟨k, hk, e⟩
  rw [this] at hli
  cases hli
 have hklt : ∀ k ∈ U, k.1 < ops.size := fun k hk => (h.ya k hk).lt
 refine ⟨?_, by simp [h.size], ?_, ?_, ?_, by rw [GU, h.tsize], by rw [Kq, h.defers], ?_, ?_, ?_⟩
 ·intro k hk
  rcases List.mem_cons.1 hk with rfl | hk
  ·simp
  ·exact List.mem_cons_of_mem _ (h.sub k hk)
 ·intro j
  rw [JU Lc i j (FY hui), h.list j]
  simp only [List.map_cons, List.contains_cons]
  cases Lr.getD j true <;> cases (U.map (·.1)).contains j <;> simp
 ·intro k hk
  rcases List.mem_cons.1 hk with rfl | hk
  ·exact hri
  ·exact h.un k hk
 ·intro k hk
  rcases List.mem_cons.1 hk with rfl | hk
  ·exact hy.agree (hsel _) (La i ac _ v (fun t ht => by rw [hd] at ht; cases ht; exact hself))
  ·exact (h.ya k hk).agree (hsel _) (La k.1 ac _ v (OC (hp k (h.sub k hk))))
 ·intro t ht
  rw [LC ac _ v t (ht (i, v) (by simp))]
  exact h.same t (fun k hk => ht k (List.mem_cons_of_mem _ hk))
 ·intro k hk e he hlt
  rw [GU] at hlt
  rcases List.mem_cons.1 hk with rfl | hk
  ·simp only at he ⊢
   rw [he]
   exact Na ac e v hlt
  ·rw [LC ac _ v e (fun heq => (hall k.1 (hklt k hk) (hnU k hk)).1 (by rw [hd] at heq; rw [he, heq]))]
   exact h.has k hk e he hlt
 ·intro k hk
  rcases List.mem_cons.1 hk with rfl | hk
  ·exact hs
  ·exact h.ssa k hk

theorem Rel.come {pend U : List (Nat × Value)} {Lc Lr : Array Bool} {ac ar : Act} {w : World} (h : Rel P ops pend U Lc Lr ac ar w) {j : Nat} {u : Value} (hk : (j, u) ∈ U) :
  Rel P ops pend (U.filter fun k => k.1 != j) Lc (Lr.setIfInBounds j true) ac (ar.put (FI ops j) u) w := by
 have hj := h.un _ hk
 simp only at hj
 have hmem : ∀ k, k ∈ U.filter (fun k => k.1 != j) ↔ k ∈ U ∧ k.1 ≠ j := fun k => by simp
 refine ⟨fun k hk' => h.sub k ((hmem k).1 hk').1, by simp [h.size], ?_, ?_, fun k hk' => h.ya k ((hmem k).1 hk').1, by rw [GU, h.tsize], by rw [Kq, h.defers], ?_,
  fun k hk' => h.has k ((hmem k).1 hk').1, fun k hk' => h.ssa k ((hmem k).1 hk').1⟩
 ·intro i
  rw [JU Lr j i (FY hj), h.list i]
  by_cases hij : i = j
  ·subst hij
   have : (U.map (·.1)).contains i = true := by simp only [List.contains_iff_mem, List.mem_map]; exact ⟨_, hk, rfl⟩
   rw [this]; simp
  ·have h1 : (i == j) = false := by simpa using hij
   have h2 : ((U.filter fun k => k.1 != j).map (·.1)).contains i = (U.map (·.1)).contains i := by
    rw [Bool.eq_iff_iff]
    simp only [List.contains_iff_mem, List.mem_map]
    constructor
    ·rintro ⟨k, hk', e⟩; exact ⟨k, ((hmem k).1 hk').1, e⟩
    ·rintro ⟨k, hk', e⟩; exact ⟨k, (hmem k).2 ⟨hk', by rw [e]; exact hij⟩, e⟩
   rw [h1, h2]; simp
 ·intro k hk'
  obtain ⟨h1, h2⟩ := (hmem k).1 hk'
  rw [getD_set_ne true (fun e => h2 e.symm)]
  exact h.un k h1
 ·intro t ht
  by_cases hd : FI ops j = some t
  ·rw [hd]
   by_cases hlt : t < ar.tmps.size
   ·rw [Na ar t u hlt, h.has _ hk t hd (by rw [h.tsize]; exact hlt)]
   ·rw [Array.getElem?_eq_none (by rw [GU]; omega), Array.getElem?_eq_none (by rw [h.tsize]; omega)]
  ·rw [LC ar _ u t hd]
   refine h.same t (fun k hk' e => ?_)
   by_cases hkj : k.1 = j
   ·rw [hkj] at e; exact hd e
   ·exact ht k ((hmem k).2 ⟨hk', hkj⟩) e

theorem Rel.act {pend U : List (Nat × Value)} {Lc Lr : Array Bool} {ac ar : Act} {w w' : World} (h : Rel P ops pend U Lc Lr ac ar w) {i : Nat} {o : Oper} (ho : ops[i]? = some o)
  (hc : i ∈ Region.ready .any ops Lc) (hr : i ∈ Region.ready .any ops Lr) (ds : List Deferred → List Deferred) (v : Value)
  (hy : ∀ k ∈ pend, edge ops i k.1 = false → YA P ops k.1 k.2 (({ ac with defers := ds ac.defers } : Act).put o.dst v) w') :
  Rel P ops (pend.filter fun k => !edge ops i k.1) U (Lc.setIfInBounds i true) (Lr.setIfInBounds i true) (({ ac with defers := ds ac.defers } : Act).put o.dst v) (({ ar with defers := ds ar.defers } : Act).put o.dst v) w' := by
 have hui := (mem_ready.1 hc).1
 have hri := (mem_ready.1 hr).1
 have hdo : FI ops i = o.dst := by simp [FI, ho]
 have hne : ∀ k ∈ U, k.1 ≠ i := by
  intro k hk e
  have := h.list i
  rw [hui, hri] at this
  simp only [Bool.false_or] at this
  have h2 : (U.map (·.1)).contains i = true := by simp only [List.contains_iff_mem, List.mem_map]; exact ⟨k, hk, e⟩
  rw [h2] at this
  cases this
 have hedge : ∀ k ∈ U, edge ops i k.1 = false := fun k hk => Oq hr (h.un k hk)
 refine ⟨fun k hk => List.mem_filter.2 ⟨h.sub k hk, by simp [hedge k hk]⟩, by simp [h.size], ?_, ?_, fun k hk => hy k (h.sub k hk) (hedge k hk), by rw [GU, GU]; exact h.tsize,
  by rw [Kq, Kq, h.defers], ?_, ?_, h.ssa⟩
 ·intro j
  rw [JU Lc i j (FY hui), JU Lr i j (FY hri), h.list j]
  cases Lr.getD j true <;> cases (U.map (·.1)).contains j <;> simp
 ·intro k hk
  rw [getD_set_ne true (fun e => hne k hk e.symm)]
  exact h.un k hk
 ·intro t ht
  by_cases hd : o.dst = some t
  ·rw [hd]
   by_cases hlt : t < ar.tmps.size
   ·rw [Na _ t v (by exact hlt), Na _ t v (by show t < ac.tmps.size; rw [h.tsize]; exact hlt)]
   ·rw [Array.getElem?_eq_none (by rw [GU]; show ar.tmps.size ≤ t; omega), Array.getElem?_eq_none (by rw [GU]; show ac.tmps.size ≤ t; rw [h.tsize]; omega)]
  ·rw [LC _ _ v t hd, LC _ _ v t hd]
   exact h.same t ht
 ·intro k hk e he hlt
  rw [GU] at hlt
  obtain ⟨d, hd, _, hall⟩ := JJ (h.ssa k hk)
  rw [hd] at he
  cases he
  have := (hall i (Array.getElem?_eq_some_iff.1 ho).1 (fun e => hne k hk e.symm)).1
  rw [hdo] at this
  rw [LC _ _ v e this]
  exact h.has k hk e hd hlt

theorem Rel.ready {pend U : List (Nat × Value)} {Lc Lr : Array Bool} {ac ar : Act} {w : World} (hrel : Rel P ops pend U Lc Lr ac ar w) {j : Nat} (hj : j ∈ Region.ready .any ops Lr) (hjU : ¬ ∃ u, (j, u) ∈ U) : j ∈ Region.ready .any ops Lc := by
 obtain ⟨h0, o, ho, hall⟩ := mem_ready.1 hj
 refine mem_ready.2 ⟨?_, o, ho, fun e he hb => ?_⟩
 ·rw [hrel.list j, h0]
  simp only [Bool.false_or]
  cases hx : (U.map (·.1)).contains j
  ·rfl
  ·simp only [List.contains_iff_mem, List.mem_map] at hx
   obtain ⟨k, hk, e⟩ := hx
   exact absurd ⟨k.2, by rw [← e]; exact hk⟩ hjU
 ·have h1 := hall e he hb
  have hlt : e.on < Lr.size := by
   rcases Nat.lt_or_ge e.on Lr.size with h' | h'
   ·exact h'
   ·simp [Array.getElem?_eq_none h'] at h1
  have h2 := hrel.list e.on
  have h3 : Lr.getD e.on true = true := by
   simp [hlt] at h1 ⊢; exact h1
  rw [h3] at h2
  simp only [Bool.true_or] at h2
  have hlt' : e.on < Lc.size := by rw [hrel.size]; exact hlt
  simp [hlt'] at h2 ⊢; exact h2
theorem V8 {Q : Exit → Act → World → Prop} (hsel : ∀ (k : Nat) (o : Oper) cs b, ops[k]? = some o → o.op ≠ .select cs b) (hQ : ∀ x a w, Q x a w → x = .normal) (m : Nat)
  (K : Array Bool → Act → World → Prop)
  (ih : ∀ (s : Sch) (pend U : List (Nat × Value)) (Lc Lr' : Array Bool) (ac ar' : Act) (w' : World),
    Dj ops s (pend.map (·.1)) Lc = true → CW P ops Q s pend ac w' → Rel P ops pend U Lc Lr' ac ar' w' → cnt Lr' ≤ m → K Lr' ar' w')
  (s : Sch) (pend U : List (Nat × Value)) (Lc Lr : Array Bool) (ac ar : Act) (w : World) (j : Nat)
  (h3 : Dj ops s ((pend.map (·.1)).filter fun k => !edge ops j k) (Lc.setIfInBounds j true) = true)
  (hcw : wpOp P ops Q j (fun a' w' => (∀ k ∈ pend, edge ops j k.1 = false → YA P ops k.1 k.2 a' w') ∧ CW P ops Q s (pend.filter fun k => !edge ops j k.1) a' w') ac w)
  (hrel : Rel P ops pend U Lc Lr ac ar w) (hcnt : cnt Lr ≤ m + 1) (hj : j ∈ Region.ready .any ops Lr) (hjc : j ∈ Region.ready .any ops Lc) : wpOp P ops Q j (K (Lr.setIfInBounds j true)) ar w := by
 have hc := Md (mem_ready.1 hj).1
 have hag := hrel.agree hj
 obtain ⟨_, o, ho, _⟩ := mem_ready.1 hj
 have hpend : (pend.filter fun k => !edge ops j k.1).map (·.1) = (pend.map (·.1)).filter fun k => !edge ops j k := by rw [List.filter_map]; rfl
 have next : ∀ (ds : List Deferred → List Deferred) (v : Value) (w' : World),
   ((∀ k ∈ pend, edge ops j k.1 = false → YA P ops k.1 k.2 (({ ac with defers := ds ac.defers } : Act).put o.dst v) w') ∧
    CW P ops Q s (pend.filter fun k => !edge ops j k.1) (({ ac with defers := ds ac.defers } : Act).put o.dst v) w') →
   K (Lr.setIfInBounds j true) (({ ar with defers := ds ar.defers } : Act).put o.dst v) w' := by
  intro ds v w' ⟨hy, hcw'⟩
  exact ih s _ U _ _ _ _ w' (by rw [hpend]; exact h3) hcw' (hrel.act ho hjc hj ds v hy) (by omega)
 unfold wpOp at hcw ⊢
 simp only [ho] at hcw ⊢
 rw [← hag.wanted ho]
 split
 ·rename_i hw
  simp only [hw, if_true] at hcw
  rcases hcw with hcw | ⟨_, a₀, w₀, hq⟩
  ·refine .inl ?_
   unfold Oper.wp at hcw ⊢
   rw [← hag.exec ho (fun cs b => hsel j o cs b ho)]
   generalize (execOp ac.eval o).run P w = r at hcw ⊢
   cases r with
   | ok n w' =>
    cases n <;> simp only [Oper.upon] at hcw ⊢
    case value u => exact next id u w' hcw
    case skip => exact next id undef w' hcw
    case defer d => exact next (d :: ·) undef w' hcw
    case enter f args =>
     refine Calls.mono hcw fun e w'' he => ?_
     cases e with
     | returned u => exact next id u w'' he
     | panicked c => exact absurd (hQ _ _ _ he) (by simp)
     | outgrown =>
      obtain ⟨a₀, w₀, hq⟩ := he
      exact absurd (hQ _ _ _ hq) (by simp)
    case row row args => exact Rows.mono hcw fun u w'' he => next id u w'' he
   | halt x w' =>
    cases x <;> simp only [Oper.upon] at hcw ⊢
    case panic u => exact absurd (hQ _ _ _ hcw) (by simp)
  ·exact absurd (hQ _ _ _ hq) (by simp)
 ·rename_i hw
  simp only [hw] at hcw
  exact next id undef w hcw
theorem sim_op {Q : Exit → Act → World → Prop} (hsel : ∀ (k : Nat) (o : Oper) cs b, ops[k]? = some o → o.op ≠ .select cs b) (hQ : ∀ x a w, Q x a w → x = .normal) (m : Nat)
  (K : Array Bool → Act → World → Prop)
  (ih : ∀ (s : Sch) (pend U : List (Nat × Value)) (Lc Lr' : Array Bool) (ac ar' : Act) (w' : World),
    Dj ops s (pend.map (·.1)) Lc = true → CW P ops Q s pend ac w' → Rel P ops pend U Lc Lr' ac ar' w' → cnt Lr' ≤ m → K Lr' ar' w') :
   ∀ (s : Sch) (pend U : List (Nat × Value)) (Lc Lr : Array Bool) (ac ar : Act) (w : World),
    Dj ops s (pend.map (·.1)) Lc = true → CW P ops Q s pend ac w → Rel P ops pend U Lc Lr ac ar w → cnt Lr ≤ m + 1 →
    ∀ j ∈ Region.ready .any ops Lr, wpOp P ops Q j (K (Lr.setIfInBounds j true)) ar w := by
 intro s
 induction s with
 | nil =>
  intro pend U Lc Lr ac ar w hok hcw hrel hcnt j hj
  have hc := Md (mem_ready.1 hj).1
  by_cases hjU : ∃ u, (j, u) ∈ U
  ·obtain ⟨u, hu⟩ := hjU
   exact ((hrel.ya _ hu).agree (hsel _) (hrel.agree hj)).wpOp (ih _ _ _ _ _ _ _ _ hok hcw (hrel.come hu) (by omega))
  ·have := hrel.ready hj hjU
   simp only [Dj, List.isEmpty_iff] at hok
   rw [hok] at this
   cases this
 | take i s ihs =>
  intro pend U Lc Lr ac ar w hok hcw hrel hcnt j hj
  have hc := Md (mem_ready.1 hj).1
  by_cases hjU : ∃ u, (j, u) ∈ U
  ·obtain ⟨u, hu⟩ := hjU
   exact ((hrel.ya _ hu).agree (hsel _) (hrel.agree hj)).wpOp (ih _ _ _ _ _ _ _ _ hok hcw (hrel.come hu) (by omega))
  ·simp only [Dj, Bool.and_eq_true] at hok
   obtain ⟨⟨⟨h1, h2⟩, h3⟩, h4⟩ := hok
   obtain ⟨v, hy, hcw'⟩ := hcw
   have hp : ∀ k ∈ pend, PH ops i k.1 = true := fun k hk => List.all_eq_true.1 h3 k.1 (List.mem_map.2 ⟨k, hk, rfl⟩)
   exact ihs ((i, v) :: pend) ((i, v) :: U) (Lc.setIfInBounds i true) Lr _ ar w (by simpa using h4) hcw' (hrel.take hsel (by simpa using h1) h2 hp hy) hcnt j hj
 | act i s ihs =>
  intro pend U Lc Lr ac ar w hok hcw hrel hcnt j hj
  have hc := Md (mem_ready.1 hj).1
  by_cases hjU : ∃ u, (j, u) ∈ U
  ·obtain ⟨u, hu⟩ := hjU
   exact ((hrel.ya _ hu).agree (hsel _) (hrel.agree hj)).wpOp (ih _ _ _ _ _ _ _ _ hok hcw (hrel.come hu) (by omega))
  ·have hjc := hrel.ready hj hjU
   simp only [Dj, Bool.and_eq_true, beq_iff_eq] at hok
   obtain ⟨⟨h1, h2⟩, h3⟩ := hok
   have hji := hjc
   rw [h1] at hji
   simp only [List.mem_singleton] at hji
   subst hji
   exact V8 hsel hQ m K ih s pend U Lc Lr ac ar w j h3 hcw hrel hcnt hj hjc
 | alt i s i' s' ihs ihs' =>
  intro pend U Lc Lr ac ar w hok hcw hrel hcnt j hj
  have hc := Md (mem_ready.1 hj).1
  by_cases hjU : ∃ u, (j, u) ∈ U
  ·obtain ⟨u, hu⟩ := hjU
   exact ((hrel.ya _ hu).agree (hsel _) (hrel.agree hj)).wpOp (ih _ _ _ _ _ _ _ _ hok hcw (hrel.come hu) (by omega))
  ·have hjc := hrel.ready hj hjU
   simp only [Dj, Bool.and_eq_true, beq_iff_eq] at hok
   obtain ⟨⟨h1, h2, h3⟩, h4, h5⟩ := hok
   have hji := hjc
   rw [h1] at hji
   simp only [List.mem_cons, List.not_mem_nil, or_false] at hji
   rcases hji with rfl | rfl
   ·exact V8 hsel hQ m K ih s pend U Lc Lr ac ar w j h3 hcw.1 hrel hcnt hj hjc
   ·exact V8 hsel hQ m K ih s' pend U Lc Lr ac ar w j h5 hcw.2 hrel hcnt hj hjc

def rising (ops : Array Oper) : Bool := (List.range ops.size).all fun i => match ops[i]? with
 | some o => o.after.all fun e => !Region.binds .any e || decide (e.on < i)
 | none => true
theorem Wh (h : rising ops = true) {L : Array Bool} (hL : L.size = ops.size) (hr : Region.ready .any ops L = []) : cnt L = 0 := by
 -- the least that is not listed is ready
 have key : ∀ n, ∀ i, i < n → i < ops.size → L.getD i true = true := by
  intro n
  induction n with
  | zero => intro i hi; omega
  | succ n ih =>
   intro i hi hlt
   by_cases hin : i < n
   ·exact ih i hin hlt
   ·have hin' : i = n := by omega
    subst hin'
    cases hx : L.getD i true
    ·exfalso
     obtain ⟨o, ho⟩ : ∃ o, ops[i]? = some o := ⟨ops[i], by simp [hlt]⟩
     have : i ∈ Region.ready .any ops L := by
      refine mem_ready.2 ⟨hx, o, ho, fun e he hbind => ?_⟩
      have h1 := List.all_eq_true.1 h i (List.mem_range.2 hlt)
      rw [ho] at h1
      have h2 := Array.all_eq_true_iff_forall_mem.1 h1 e he
      have h3 : e.on < i := by simpa [hbind] using h2
      have h4 := ih e.on h3 (by omega)
      have h5 : e.on < L.size := by omega
      simp [h5] at h4 ⊢
      exact h4
     rw [hr] at this
     cases this
    ·rfl
 unfold cnt
 rw [Array.count_eq_zero]
 intro hm
 obtain ⟨i, hi, he⟩ := Array.mem_iff_getElem.1 hm
 have := key (i + 1) i (by omega) (by omega)
 simp [hi, he] at this

theorem Aau {Q : Exit → Act → World → Prop} {s : Sch} {pend U : List (Nat × Value)} {Lc Lr : Array Bool} {ac ar : Act} {w : World}
  (hok : Dj ops s (pend.map (·.1)) Lc = true) (hcw : CW P ops Q s pend ac w) (hrel : Rel P ops pend U Lc Lr ac ar w) (h0 : cnt Lr = 0) : Q .normal ar w := by
 have hall : ∀ j, Lr.getD j true = true := by
  intro j
  cases hx : Lr.getD j true
  ·have := Md hx; omega
  ·rfl
 have hU : U = [] := by
  cases U with
  | nil => rfl
  | cons k U => have := hrel.un k (by simp); rw [hall] at this; cases this
 subst hU
 rw [hrel.done]
 have hc : ∀ j, Lc.getD j true = true := fun j => by rw [hrel.list j, hall]; rfl
 have none : ∀ i, i ∉ Region.ready .any ops Lc := fun i hi => by
  have := (mem_ready.1 hi).1
  rw [hc] at this
  cases this
 cases s with
 | nil => exact hcw
 | take i s =>
  simp only [Dj, Bool.and_eq_true, List.contains_iff_mem] at hok
  exact absurd hok.1.1.1 (none i)
 | act i s =>
  simp only [Dj, Bool.and_eq_true, beq_iff_eq] at hok
  exact absurd (by rw [hok.1.1]; simp) (none i)
 | alt i s j t =>
  simp only [Dj, Bool.and_eq_true, beq_iff_eq] at hok
  exact absurd (by rw [hok.1.1]; simp) (none i)

theorem Ad2 {Q : Exit → Act → World → Prop} (hsel : ∀ (k : Nat) (o : Oper) cs b, ops[k]? = some o → o.op ≠ .select cs b) (hQ : ∀ x a w, Q x a w → x = .normal) (hris : rising ops = true) :
  ∀ (fuel : Nat) (s : Sch) (pend U : List (Nat × Value)) (Lc Lr : Array Bool) (ac ar : Act) (w : World),
   Dj ops s (pend.map (·.1)) Lc = true → CW P ops Q s pend ac w → Rel P ops pend U Lc Lr ac ar w → Lr.size = ops.size → cnt Lr ≤ fuel → wpAny P .any ops Q fuel Lr ar w := by
 intro fuel
 induction fuel with
 | zero =>
  intro s pend U Lc Lr ac ar w hok hcw hrel hsz hcnt
  refine ⟨?_, Aau hok hcw hrel (by omega)⟩
  cases hr : Region.ready .any ops Lr with
  | nil => rfl
  | cons j l =>
   have := Md (mem_ready.1 (show j ∈ Region.ready .any ops Lr by rw [hr]; simp)).1
   omega
 | succ fuel ihf =>
  intro s pend U Lc Lr ac ar w hok hcw hrel hsz hcnt
  refine ⟨fun hr => Aau hok hcw hrel (Wh hris hsz hr), ?_⟩
  intro j hj
  have := sim_op hsel hQ fuel (fun L a w => L.size = ops.size → wpAny P .any ops Q fuel L a w)
   (fun s pend U Lc Lr' ac ar' w' h1 h2 h3 h4 h5 => ihf s pend U Lc Lr' ac ar' w' h1 h2 h3 h5 h4) s pend U Lc Lr ac ar w hok hcw hrel hcnt j hj
  exact wpOp_mono (fun a' w' h => h (by simp [hsz])) this

theorem AbZ {Q : Exit → Act → World → Prop} {id : Nat} {s : Sch} {a : Act} {w : World} (hm : P.follows .mixedOrders = true) (hsel : Region.noSelect ops = true)
  (hris : rising ops = true) (hok : Dj ops s [] (Array.replicate ops.size false) = true) (hQ : ∀ x a w, Q x a w → x = .normal) (h : CW P ops Q s [] a w.drew) :
  (Code.region id ops true).wp P Q a w := by
 refine wp_region_any hm ?_
 refine Ad2 (fun k o cs b ho => Region.noSelect_spec hsel k o cs b ho) hQ hris ops.size s [] [] _ _ a a w.drew hok h ?_ (by simp) ?_
 ·exact ⟨by simp, rfl, by simp, by simp, by simp, rfl, rfl, by simp, by simp, by simp⟩
 ·unfold cnt
  simp
end
def GN : MOp → Bool
 | .p .. | .ld .. | .ldn .. | .bs .. => true
 | .gd _ _ _ o => GN o
 | _ => false
def ZC : MOp → Bool
 | .ld .. | .ldn .. | .bs .. => true
 | .gd _ _ _ o => ZC o
 | _ => false
def ML (P : Program) : MOp → Act → World → Value → Prop
 | .p _ f xs, a, _, u => ∃ c, pev f (xs.map a.eval) = some (c, u) ∧ c
 | .ld _ x, a, w, u => ∃ ad, a.eval x = .pointer (some ad) ∧ w.cell? ad = some u
 | .ldn _ n x, a, w, u => ∃ ad vs, a.eval x = .pointer (some ad) ∧ u = .agg (List.toArray vs) ∧ vs.length = n ∧ ∀ j v, vs[j]? = some v → w.cell? (ad.add j) = some v
 | .bs _ x, a, w, u => ∃ ad l c, a.eval x = .slice ad (List.length l) c ∧ u = .string ⟨List.toArray l⟩ ∧ ∀ j b, l[j]? = some b → ∃ ad', ad = some ad' ∧ w.cell? (ad'.add j) = some (.int .u8 (UInt8.toNat b))
 | .gd g want _ o, a, w, u => (∃ b, a.tmps[g]? = some (.bool b) ∧ (((b == want) = true ∧ ML P o a w u) ∨ ((b == want) = false ∧ u = undef))) ∨ ∃ cs, a.tmps[g]? = some (.tuple cs) ∧ u = undef
 | _, _, _, _ => False

def Y5 (P : Program) (ops : Array Oper) (n i : Nat) : Option MOp := match ops[i]? with
 | none => none
 | some o => match trG P ops o with
  | none => none
  | some m => if AaV n o then some m else none
def Qv (ops : Array Oper) (i : Nat) (pend : List (Nat × MOp)) : List MOp := (pend.filter fun k => !edge ops i k.1 && ZC k.2).map (·.2)
def Gp (P : Program) (ops : Array Oper) (n : Nat) : Sch → List (Nat × MOp) → Option DT
 | .nil, _ => some .nil
 | .take i s, pend => match Y5 P ops n i with
  | none => none
  | some m => if GN m then (Gp P ops n s ((i, m) :: pend)).map fun l => .one ⟨m, []⟩ l else none
 | .act i s, pend => match Y5 P ops n i with
  | none => none
  | some m => (Gp P ops n s (pend.filter fun k => !edge ops i k.1)).map fun l => .one ⟨m, Qv ops i pend⟩ l
 | .alt i s j t, pend => match Y5 P ops n i, Y5 P ops n j with
  | some m, some m' => match Gp P ops n s (pend.filter fun k => !edge ops i k.1), Gp P ops n t (pend.filter fun k => !edge ops j k.1) with
   | some l, some l' => some (.alt ⟨m, Qv ops i pend⟩ l ⟨m', Qv ops j pend⟩ l')
   | _, _ => none
  | _, _ => none
def PL (P : Program) (ops : Array Oper) : Nat → Array Bool → List Nat → Option Sch
 | 0, _, _ => some .nil
 | fuel + 1, L, pend =>
  let r := Region.ready .any ops L
  match r.find? (fun i => Ti ops i && pend.all (fun k => PH ops i k) && (match (ops[i]?).bind (trG P ops) with | some m => GN m | none => false)) with
  | some i => (PL P ops fuel (L.setIfInBounds i true) (i :: pend)).map (.take i ·)
  | none => match r with
   | [] => some .nil
   | [i] => (PL P ops fuel (L.setIfInBounds i true) (pend.filter fun k => !edge ops i k)).map (.act i ·)
   | [i, j] => match PL P ops fuel (L.setIfInBounds i true) (pend.filter fun k => !edge ops i k), PL P ops fuel (L.setIfInBounds j true) (pend.filter fun k => !edge ops j k) with
    | some s, some t => some (.alt i s j t)
    | _, _ => none
   | _ => none
def trDr (P : Program) (n : Nat) (ops : Array Oper) : Option DT :=
 match PL P ops ops.size (Array.replicate ops.size false) [] with
 | none => none
 | some s => if P.follows .mixedOrders && Region.noSelect ops && rising ops && Dj ops s [] (Array.replicate ops.size false) then Gp P ops n s [] else none

section
variable {P : Program} {n : Nat} {ops : Array Oper}

theorem Q9 {k : Nat} {o : Oper} (ho : ops[k]? = some o) {j : Nat} {want : Bool} {g : Nat} (hg : o.guard = some (j, want)) (hj : (ops[j]?).bind (·.dst) = some g) : g ∈ looks ops k := by
 unfold looks
 rw [ho]
 refine List.mem_append_right _ ?_
 simp only [hg, hj, Option.toList, List.mem_cons, List.not_mem_nil, or_false]

theorem SV {op : BinOp} {t : TypeId} {x y : Operand} {t' : TypeId} {pf : PF} {xs : List Operand} (h : Xo P op t x y = some (pf, xs)) :
  ∀ z ∈ xs, z ∈ (Op.binOp op t x y t').operands := by
 unfold Xo at h
 split at h
 ·cases h; intro z hz; simpa [Op.operands] using hz
 ·cases h; intro z hz; simpa [Op.operands] using hz
 ·cases h; intro z hz; simpa [Op.operands] using hz
 ·split at h
  ·cases h
  ·split at h
   ·split at h
    ·cases h; intro z hz; simp at hz; simp [Op.operands, hz]
    ·split at h
     ·cases h; intro z hz; simp at hz; simp [Op.operands, hz]
     ·cases h
   ·split at h
    ·cases h; intro z hz; simp at hz; simp [Op.operands, hz]
    ·split at h
     ·cases h; intro z hz; simp at hz; simp [Op.operands, hz]
     ·cases h
   ·cases h
 ·cases h
theorem Uw {op : Op} {pf : PF} {xs : List Operand} (h : Y2 P op = some (pf, xs)) : ∀ x ∈ xs, x ∈ op.operands := by
 unfold Y2 at h
 split at h
 case h_8 =>
  split at h
  ·split at h
   ·split at h <;> cases h
    intro z hz; simp at hz; simp [Op.operands, hz]
   ·cases h
  ·cases h
 case h_9 =>
  split at h
  ·split at h
   ·split at h <;> cases h
    intro z hz; simp at hz; simp [Op.operands, hz]
   ·cases h
  ·cases h
 case h_10 =>
  split at h
  ·rename_i el hd
   cases hs : Bh P el with
   | none => rw [hs] at h; cases h
   | some s => rw [hs] at h; cases h; intro z hz; simpa [Op.operands] using hz
  ·rename_i m el hd
   cases hs : Bh P el with
   | none => rw [hs] at h; cases h
   | some s => rw [hs] at h; cases h; intro z hz; simpa [Op.operands] using hz
  ·cases h
 case h_11 =>
  split at h
  ·split at h <;> cases h
   intro z hz; simpa [Op.operands] using hz
  ·cases h; intro z hz; simpa [Op.operands] using hz
  ·cases h
 case h_12 t x lo hi mx =>
  have key : ∀ z ∈ [x] ++ lo.toList ++ hi.toList ++ mx.toList, z ∈ (Op.slice t x lo hi mx).operands := by
   intro z hz
   simp only [Op.operands]
   cases lo <;> cases hi <;> cases mx <;> simpa using hz
  split at h
  ·rename_i el hd
   cases hs : Bh P el with
   | none => rw [hs] at h; cases h
   | some s => rw [hs] at h; cases h; exact key
  ·split at h
   ·cases h
   ·cases h; intro z hz; exact key z (List.mem_append_left _ hz)
  ·rename_i m el hd
   split at h
   ·cases h
   ·cases hs : Bh P el with
    | none => rw [hs] at h; cases h
    | some s => rw [hs] at h; cases h; intro z hz; exact key z (List.mem_append_left _ hz)
  ·cases h
 case h_17 t parts =>
  have key : ∀ z ∈ parts.toList.map (·.2), z ∈ (Op.build t parts).operands := by
   intro z hz
   simpa [Op.operands] using hz
  split at h
  ·split at h
   ·rename_i fs z hd hz hk
    cases hp : placesOf P fs (List.map (fun (x : Nat × Operand) => x.fst) parts.toList) with
    | none => rw [hp] at h; cases h
    | some ps => rw [hp] at h; cases h; exact key
   ·cases h
  ·rename_i m el z hd hz
   cases hs : Bh P el with
   | none => rw [hs] at h; cases h
   | some s => rw [hs] at h; cases h; exact key
  ·cases h
 case h_22 => exact SV h
 case h_6 =>
  split at h <;> cases h <;> (intro z hz; simpa [Op.operands] using hz)
 case h_14 =>
  split at h <;> cases h
  intro z hz; simpa [Op.operands] using hz
 case h_18 args ats =>
  have key : ∀ x, args.toList = [x] → ∀ z ∈ [x], z ∈ (Op.call { callee := .builtin .len, args, argTypes := ats }).operands := by
   intro x hx z hz
   obtain ⟨l⟩ := args
   simp only at hx
   subst hx
   simpa [Op.operands, Call.operands] using hz
  split at h
  ·cases h; exact key _ ‹_›
  ·cases h; exact key _ ‹_›
  ·cases h; exact key _ ‹_›
  ·split at h <;> cases h
   exact key _ ‹_›
  ·cases h
 case h_19 args ats =>
  split at h
  ·rename_i x el hx _
   cases h
   intro z hz
   obtain ⟨l⟩ := args
   simp only at hx
   subst hx
   simpa [Op.operands, Call.operands] using hz
  ·cases h
 all_goals first
  | (cases h; intro z hz; simpa [Op.operands, Call.operands] using hz)
  | (cases h; done)
  | skip

theorem Y3 {o : Oper} {d : Nat} {pf : PF} {xs : List Operand} (h : MK P o = some (.p d pf xs)) : Y2 P o.op = some (pf, xs) ∧ o.dst = some d := by
 unfold MK at h
 split at h
 ·rename_i pf' xs' hp
  cases hd : o.dst with
  | none => rw [hd] at h; cases h
  | some d' => rw [hd] at h; cases h; exact ⟨hp, rfl⟩
 ·exfalso
  split at h <;> (repeat' split at h) <;> (try cases h) <;> (try (cases hd : o.dst <;> rw [hd] at h <;> cases h))
theorem RQ {o : Oper} {d : Nat} {x : Operand} (h : MK P o = some (.ld d x)) : ∃ t, o.op = .load t x ∧ Jq P t = some false ∧ o.dst = some d := by
 unfold MK at h
 split at h
 ·cases hd : o.dst with
  | none => rw [hd] at h; cases h
  | some d' => rw [hd] at h; cases h
 ·split at h
  ·rename_i t y ho
   split at h
   ·cases hd : o.dst with
    | none => rw [hd] at h; cases h
    | some d' => rw [hd] at h; cases h
   ·rename_i ha
    cases hd : o.dst with
    | none => rw [hd] at h; cases h
    | some d' => rw [hd] at h; cases h; exact ⟨t, ho, ha, rfl⟩
   ·cases h
  all_goals
   exfalso
   (repeat' split at h) <;> (try cases h) <;> (try (cases hd : o.dst <;> rw [hd] at h <;> cases h))
theorem Pi {o : Oper} {d m : Nat} {x : Operand} (h : MK P o = some (.ldn d m x)) : ∃ t, o.op = .load t x ∧ Jq P t = some true ∧ Bh P t = some m ∧ o.dst = some d := by
 unfold MK at h
 split at h
 ·cases hd : o.dst with
  | none => rw [hd] at h; cases h
  | some d' => rw [hd] at h; cases h
 ·split at h
  ·rename_i t y ho
   split at h
   ·rename_i ha hn
    cases hd : o.dst with
    | none => rw [hd] at h; cases h
    | some d' => rw [hd] at h; cases h; exact ⟨t, ho, ha, hn, rfl⟩
   ·cases hd : o.dst with
    | none => rw [hd] at h; cases h
    | some d' => rw [hd] at h; cases h
   ·cases h
  all_goals
   exfalso
   (repeat' split at h) <;> (try cases h) <;> (try (cases hd : o.dst <;> rw [hd] at h <;> cases h))
theorem RX {o : Oper} {d : Nat} {x : Operand} (h : MK P o = some (.bs d x)) : ∃ src dst el, o.op = .convert src dst x ∧ P.underlying src = some (.slice el) ∧ P.underlying dst = some .string ∧
  P.underlying el = some (.int .u8) ∧ o.dst = some d := by
 unfold MK at h
 split at h
 ·cases hd : o.dst with
  | none => rw [hd] at h; cases h
  | some d' => rw [hd] at h; cases h
 ·split at h
  case h_3 src dst y ho =>
   split at h
   ·rename_i el hs hd
    split at h
    ·rename_i he hdst
     cases h
     exact ⟨src, dst, el, ho, hs, hd, he, hdst⟩
    ·cases h
   ·cases h
  all_goals
   exfalso
   (repeat' split at h) <;> (try cases h) <;> (try (cases hd : o.dst <;> rw [hd] at h <;> cases h))
theorem RU {o : Oper} {g : Nat} {want : Bool} {d : Option Nat} {m : MOp} (h : MK P o = some (.gd g want d m)) : False := by
 unfold MK at h
 split at h
 ·cases hd : o.dst with
  | none => rw [hd] at h; cases h
  | some d' => rw [hd] at h; cases h
 ·split at h <;> (repeat' split at h) <;> (try cases h) <;> (try (cases hd : o.dst <;> rw [hd] at h <;> cases h))

theorem TD {k : Nat} {o : Oper} {a b : Act} (ho : ops[k]? = some o) (h : Agree ops k a b) {xs : List Operand} (hx : ∀ x ∈ xs, x ∈ o.op.operands) : xs.map a.eval = xs.map b.eval :=
 List.map_congr_left fun x hm => h.eval ho x (hx x hm)

theorem QX {o : Oper} {m : MOp} {a : Act} {w : World} {u : Value} (hm : MK P o = some m) (h : ML P m a w u) (ht : GN m = true) : (execOp a.eval o).run P w = .ok (.value u) w := by
 cases m <;> simp only [GN, Bool.false_eq_true] at ht
 case p d pf xs =>
  obtain ⟨hp, _⟩ := Y3 hm
  obtain ⟨c, hv, hc⟩ := h
  exact SQ hp a.eval c u (fun _ => rfl) hv hc o w rfl
 case ld d x =>
  obtain ⟨t, ho, ha, hd⟩ := RQ hm
  obtain ⟨ad, hx, hc⟩ := h
  simp [execOp, ho, hx, Instr.loadAt, Instr.sureAddr, loadVar, Fe ha, hc]
 case ldn d k x =>
  obtain ⟨t, ho, ha, hn, hd⟩ := Pi hm
  obtain ⟨ad, vs, hx, rfl, hl, hc⟩ := h
  subst hl
  simp [execOp, ho, hx, Instr.loadAt, Instr.sureAddr, loadVar, Fe ha, run_sizeOf hn, loadCells, run_loadCellsFrom vs ad 0 #[] w (by simpa using hc)]
 case bs d x =>
  obtain ⟨src, dst, el, ho, hs, hd, he, _⟩ := RX hm
  obtain ⟨ad, l, c, hx, rfl, hc⟩ := h
  simp [execOp, ho, hx, Acu hs he hd hc]
 case gd g want d m => exact (RU hm).elim
theorem Rn {k : Nat} {o : Oper} {m : MOp} {a b : Act} {w : World} {u : Value} (ho : ops[k]? = some o) (hm : MK P o = some m) (h : ML P m a w u) (hag : Agree ops k a b) : ML P m b w u := by
 cases m <;> simp only [ML] at h ⊢
 case p d pf xs =>
  obtain ⟨hp, _⟩ := Y3 hm
  rw [← TD ho hag (Uw hp)]
  exact h
 case ld d x =>
  obtain ⟨t, hop, _, _⟩ := RQ hm
  rw [← hag.eval ho x (by rw [hop]; simp [Op.operands])]
  exact h
 case ldn d n x =>
  obtain ⟨t, hop, _, _⟩ := Pi hm
  rw [← hag.eval ho x (by rw [hop]; simp [Op.operands])]
  exact h
 case bs d x =>
  obtain ⟨_, _, _, hop, _⟩ := RX hm
  rw [← hag.eval ho x (by rw [hop]; simp [Op.operands])]
  exact h
 case gd g want d m => exact (RU hm).elim

theorem SC {k : Nat} {o : Oper} {m : MOp} {a : Act} {w : World} {u : Value} (ho : ops[k]? = some o) (hm : trG P ops o = some m) (ht : GN m = true) (h : ML P m a w u) : YA P ops k u a w := by
 unfold trG at hm
 split at hm
 ·rename_i hg
  exact ⟨o, ho, .inl ⟨by simp [Region.wanted, hg], QX hm h ht⟩⟩
 ·rename_i j want hg
  split at hm
  ·rename_i g m' hj hm'
   cases hm
   rcases h with ⟨b, hb, hc⟩ | ⟨cs, hb, rfl⟩
   case inr =>
    have hy : yielded ops a.tmps j = none := by simp [yielded, hj, hb]
    exact ⟨o, ho, .inr ⟨by simp only [Region.wanted, hg, hy]; rfl, rfl⟩⟩
   have hy : yielded ops a.tmps j = some b := by simp [yielded, hj, hb]
   refine ⟨o, ho, ?_⟩
   rcases hc with ⟨hw, hc⟩ | ⟨hw, rfl⟩
   ·exact .inl ⟨by simp only [Region.wanted, hg, hy]; simpa using hw, QX hm' hc ht⟩
   ·exact .inr ⟨by simp only [Region.wanted, hg, hy]; simpa using hw, rfl⟩
  ·cases hm
theorem OZ {k : Nat} {o : Oper} {m : MOp} {a b : Act} {w : World} {u : Value} (ho : ops[k]? = some o) (hm : trG P ops o = some m) (h : ML P m a w u) (hag : Agree ops k a b) : ML P m b w u := by
 unfold trG at hm
 split at hm
 ·exact Rn ho hm h hag
 ·rename_i j want hg
  split at hm
  ·rename_i g m' hj hm'
   cases hm
   rcases h with ⟨c, hb, hc⟩ | ⟨cs, hb, hu⟩
   ·exact .inl ⟨c, by rw [← hag.2 g (Q9 ho hg hj)]; exact hb, hc.imp (fun ⟨x, y⟩ => ⟨x, Rn ho hm' y hag⟩) id⟩
   ·exact .inr ⟨cs, by rw [← hag.2 g (Q9 ho hg hj)]; exact hb, hu⟩
  ·cases hm
end
section
variable {P : Program} {n : Nat} {ops : Array Oper}

theorem SY {o : Oper} {m : MOp} {e : Env} {a : Act} {w : World} {d : Nat} {K : Env → World → Prop} (hs : Sim n e a) (hm : MK P o = some m) (ht : GN m = true) (hd : o.dst = some d)
  (h : m.wp P e w K) : ∃ u, ML P m a w u ∧ K (GK e d u) w := by
 cases m <;> simp only [GN, Bool.false_eq_true] at ht
 case p d' pf xs =>
  obtain ⟨_, hd'⟩ := Y3 hm
  rw [hd] at hd'; cases hd'
  simp only [MOp.wp] at h
  split at h
  ·rename_i vs hvs
   split at h
   ·rename_i c v hv
    exact ⟨v, ⟨c, by rw [hs.evs hvs]; exact hv, h.1⟩, h.2⟩
   ·exact h.elim
  ·exact h.elim
 case ld d' x =>
  obtain ⟨t, _, _, hd'⟩ := RQ hm
  rw [hd] at hd'; cases hd'
  simp only [MOp.wp] at h
  split at h
  ·rename_i ad hx
   obtain ⟨v, hv, hK⟩ := h
   exact ⟨v, ⟨ad, hs.ev hx, hv⟩, hK⟩
  ·exact h.elim
 case ldn d' k x =>
  obtain ⟨t, _, _, _, hd'⟩ := Pi hm
  rw [hd] at hd'; cases hd'
  simp only [MOp.wp] at h
  split at h
  ·rename_i ad hx
   obtain ⟨vs, hl, hv, hK⟩ := h
   exact ⟨_, ⟨ad, vs, hs.ev hx, rfl, hl, hv⟩, hK⟩
  ·exact h.elim
 case bs d' x =>
  obtain ⟨_, _, _, _, _, _, _, hd'⟩ := RX hm
  rw [hd] at hd'; cases hd'
  simp only [MOp.wp] at h
  split at h
  ·rename_i ad m c hx
   obtain ⟨l, hl, hv, hK⟩ := h
   subst hl
   exact ⟨_, ⟨ad, l, c, hs.ev hx, rfl, hv⟩, hK⟩
  ·exact h.elim
 case gd => exact (RU hm).elim
theorem Abi {o : Oper} {m : MOp} {e : Env} {a : Act} {w : World} {d : Nat} {K : Env → World → Prop} (hs : Sim n e a) (hm : trG P ops o = some m) (ht : GN m = true) (hd : o.dst = some d)
  (h : m.wp P e w K) : ∃ u, ML P m a w u ∧ K (GK e d u) w := by
 unfold trG at hm
 split at hm
 ·exact SY hs hm ht hd h
 ·rename_i j want hg
  split at hm
  ·rename_i g m' hj hm'
   cases hm
   simp only [MOp.wp] at h
   split at h
   ·rename_i b hb
    cases hbw : b == want
    ·have h2 := h.2 hbw
     rw [hd] at h2
     exact ⟨undef, .inl ⟨b, hs.val g _ hb, .inr ⟨hbw, rfl⟩⟩, h2⟩
    ·obtain ⟨u, hc, hK⟩ := SY hs hm' ht hd (h.1 hbw)
     exact ⟨u, .inl ⟨b, hs.val g _ hb, .inl ⟨hbw, hc⟩⟩, hK⟩
   ·rename_i cs hb
    rw [hd] at h
    exact ⟨undef, .inr ⟨cs, hs.val g _ hb, rfl⟩, h⟩
   ·exact h.elim
  ·cases hm

theorem Z5 {m : MOp} {a : Act} {w w' : World} {u : Value} (hl : ZC m = false) (h : ML P m a w u) : ML P m a w' u := by
 induction m with
 | p d f xs => exact h
 | gd g want d o ih =>
  rcases h with ⟨b, hb, hc⟩ | h
  ·exact .inl ⟨b, hb, hc.imp (fun ⟨x, y⟩ => ⟨x, ih hl y⟩) id⟩
  ·exact .inr h
 | ld d x => simp only [ZC, reduceCtorEq] at hl
 | ldn d n x => simp only [ZC, reduceCtorEq] at hl
 | bs d x => simp only [ZC, reduceCtorEq] at hl
 | _ => exact h.elim
theorem Rl {o : Oper} {m : MOp} {e : Env} {a : Act} {w w' : World} {d : Nat} {u : Value} (hs : Sim n e a) (hm : MK P o = some m) (hd : o.dst = some d) (hu : a.tmps[d]? = some u)
  (h : ML P m a w u) (hst : m.still e w') : ML P m a w' u := by
 cases m <;> simp only [ML] at h
 case p => exact h
 case ld d' x =>
  obtain ⟨t, _, _, hd'⟩ := RQ hm
  rw [hd] at hd'; cases hd'
  obtain ⟨ad, hx, _⟩ := h
  simp only [MOp.still] at hst
  split at hst
  ·rename_i ad' v hx' hv
   have h1 := hs.ev hx'
   rw [hx] at h1
   cases h1
   have h2 := hs.val d v hv
   rw [hu] at h2
   cases h2
   exact ⟨ad, hx, hst⟩
  ·exact hst.elim
 case ldn d' k x =>
  obtain ⟨t, _, _, _, hd'⟩ := Pi hm
  rw [hd] at hd'; cases hd'
  obtain ⟨ad, vs, hx, rfl, hl, _⟩ := h
  simp only [MOp.still] at hst
  split at hst
  ·rename_i ad' cs hx' hv
   have h1 := hs.ev hx'
   rw [hx] at h1
   cases h1
   have h2 := hs.val d _ hv
   rw [hu] at h2
   cases h2
   exact ⟨ad, vs, hx, rfl, hl, by simpa using hst⟩
  ·exact hst.elim
 case bs d' x =>
  obtain ⟨_, _, _, _, _, _, _, hd'⟩ := RX hm
  rw [hd] at hd'; cases hd'
  obtain ⟨ad, l, c, hx, rfl, _⟩ := h
  simp only [MOp.still] at hst
  split at hst
  ·rename_i ad' m c' s hx' hv
   have h1 := hs.ev hx'
   rw [hx] at h1
   cases h1
   have h2 := hs.val d _ hv
   rw [hu] at h2
   cases h2
   exact ⟨ad, l, c, hx, rfl, by simpa using hst⟩
  ·exact hst.elim
 case gd => exact (RU hm).elim
theorem Z7 {o : Oper} {m : MOp} {e : Env} {a : Act} {w w' : World} {d : Nat} {u : Value} (hs : Sim n e a) (hm : trG P ops o = some m) (hd : o.dst = some d) (hu : a.tmps[d]? = some u)
  (h : ML P m a w u) (hst : m.still e w') : ML P m a w' u := by
 unfold trG at hm
 split at hm
 ·exact Rl hs hm hd hu h hst
 ·rename_i j want hg
  split at hm
  ·rename_i g m' hj hm'
   cases hm
   rcases h with ⟨b, hb, hc⟩ | ⟨cs, hb, hu'⟩
   case inr => exact .inr ⟨cs, hb, hu'⟩
   refine .inl ⟨b, hb, hc.imp (fun ⟨x, y⟩ => ⟨x, ?_⟩) id⟩
   simp only [MOp.still] at hst
   split at hst
   ·rename_i b' hb'
    have h1 := hs.val g _ hb'
    rw [hb] at h1
    cases h1
    exact Rl hs hm' hd hu y (hst x)
   ·rename_i cs hb'
    have h1 := hs.val g _ hb'
    rw [hb] at h1
    cases h1
   ·exact hst.elim
  ·cases hm

theorem Ady {o : Oper} {i : Nat} {m : MOp} {e : Env} {a : Act} {w : World} {K : Env → World → Prop} {K' : Act → World → Prop} {Q : Exit → Act → World → Prop} (ho : ops[i]? = some o) (hs : Sim n e a)
  (hm : trG P ops o = some m) (hlt : ∀ d, o.dst = some d → d < n) (hk : ∀ e' v w', Sim n e' (a.put o.dst v) → K e' w' → K' (a.put o.dst v) w') (h0 : m.wp P e w K) : wpOp P ops Q i K' a w := by
 unfold wpOp
 simp only [ho]
 unfold trG at hm
 split at hm
 ·rename_i hg
  rw [if_pos (by simp [Region.wanted, hg])]
  exact .inl (Ll hm e a w _ _ Q hs hlt hk h0)
 ·rename_i j want hg
  split at hm
  ·rename_i g m' hj hm'
   cases hm
   simp only [MOp.wp] at h0
   split at h0
   ·rename_i b hb
    have hy : yielded ops a.tmps j = some b := by simp [yielded, hj, hs.val g _ hb]
    cases hbw : b == want
    ·rw [if_neg (by simp only [Region.wanted, hg, hy]; simpa using hbw)]
     have h3 := h0.2 hbw
     cases hd : o.dst with
     | none => rw [hd] at h3; have := hk e undef w (by rw [hd]; exact hs) h3; rwa [hd] at this
     | some d => rw [hd] at h3; have := hk _ undef w (by rw [hd]; exact hs.put (hlt d hd) _) h3; rwa [hd] at this
    ·rw [if_pos (by simp only [Region.wanted, hg, hy]; simpa using hbw)]
     exact .inl (Ll hm' e a w _ _ Q hs hlt hk (h0.1 hbw))
   ·rename_i cs hb
    have hy : yielded ops a.tmps j = none := by simp [yielded, hj, hs.val g _ hb]
    rw [if_neg (by simp only [Region.wanted, hg, hy]; simp)]
    cases hd : o.dst with
    | none => rw [hd] at h0; have := hk e undef w (by rw [hd]; exact hs) h0; rwa [hd] at this
    | some d => rw [hd] at h0; have := hk _ undef w (by rw [hd]; exact hs.put (hlt d hd) _) h0; rwa [hd] at this
   ·exact h0.elim
  ·cases hm

theorem Td : ∀ {l : List MOp} {e : Env} {w : World}, JI l e w → ∀ m ∈ l, m.still e w
 | m :: l, e, w, h, x, hx => by
  rcases List.mem_cons.1 hx with rfl | hx
  ·exact h.1
  ·exact Td h.2 x hx

def POK (P : Program) (ops : Array Oper) (a : Act) (w : World) (k : Nat × MOp × Value) : Prop :=
 ∃ o d, ops[k.1]? = some o ∧ trG P ops o = some k.2.1 ∧ GN k.2.1 = true ∧ ML P k.2.1 a w k.2.2 ∧ Ti ops k.1 = true ∧ o.dst = some d ∧ a.tmps[d]? = some k.2.2

theorem UO {i : Nat} {m : MOp} (h : Y5 P ops n i = some m) : ∃ o, ops[i]? = some o ∧ trG P ops o = some m ∧ ∀ d, o.dst = some d → d < n := by
 unfold Y5 at h
 split at h
 ·cases h
 ·rename_i o ho
  split at h
  ·cases h
  ·rename_i m' hm
   split at h
   ·rename_i hdst
    cases h
    exact ⟨o, ho, hm, fun d hd => by unfold AaV at hdst; rw [hd] at hdst; simpa using hdst⟩
   ·cases h
def DrOk (P : Program) (ops : Array Oper) (n : Nat) (Q : Exit → Act → World → Prop) (s : Sch) : Prop := ∀ (pend : List (Nat × MOp × Value)) (l : DT) (L : Array Bool),
  Gp P ops n s (pend.map fun k => (k.1, k.2.1)) = some l → Dj ops s (pend.map (·.1)) L = true →
  ∀ (e : Env) (a : Act) (w : World) (K : Env → World → Prop), Sim n e a → (∀ e' a' w', Sim n e' a' → K e' w' → Q .normal a' w') → (∀ k ∈ pend, POK P ops a w k) → (∀ k ∈ pend, L.getD k.1 true = true) →
  KX P l e w K → CW P ops Q s (pend.map fun k => (k.1, k.2.2)) a w
theorem ZM {Q : Exit → Act → World → Prop} {s : Sch} (ih : DrOk P ops n Q s) {i : Nat} {m : MOp} {pend : List (Nat × MOp × Value)} {l : DT} {L : Array Bool} (hm0 : Y5 P ops n i = some m)
  (hl : Gp P ops n s ((pend.map fun k => (k.1, k.2.1)).filter fun k => !edge ops i k.1) = some l) (hr : i ∈ Region.ready .any ops L) (hoff : Aa6 ops i (pend.map (·.1)) = true)
  (hok' : Dj ops s ((pend.map (·.1)).filter fun k => !edge ops i k) (L.setIfInBounds i true) = true)
  {e : Env} {a : Act} {w : World} {K : Env → World → Prop} (hs : Sim n e a) (hq : ∀ e' a' w', Sim n e' a' → K e' w' → Q .normal a' w') (hp : ∀ k ∈ pend, POK P ops a w k) (hL : ∀ k ∈ pend, L.getD k.1 true = true)
  (h0 : m.wp P e w (fun e' w' => match Qv ops i (pend.map fun k => (k.1, k.2.1)) with
   | [] => KX P l e' w' K
   | m :: c => Chk (JI (m :: c) e' w') (KX P l e' w' K) (.mk _))) :
  wpOp P ops Q i (fun a' w' => (∀ k ∈ (pend.map fun k => (k.1, k.2.2)), edge ops i k.1 = false → YA P ops k.1 k.2 a' w') ∧ CW P ops Q s ((pend.map fun k => (k.1, k.2.2)).filter fun k => !edge ops i k.1) a' w') a w := by
 obtain ⟨o, ho, hm, hlt⟩ := UO hm0
 have hdo : FI ops i = o.dst := by simp [FI, ho]
 have hi0 : L.getD i true = false := (mem_ready.1 hr).1
 have hoffk : ∀ k ∈ pend, edge ops i k.1 = false → PH ops i k.1 = true := fun k hk hx => by
  have := List.all_eq_true.1 hoff k.1 (List.mem_map.2 ⟨k, hk, rfl⟩)
  rw [hx] at this
  simpa using this
 have hne : ∀ k ∈ pend, k.1 ≠ i := fun k hk e => by have := hL k hk; rw [e, hi0] at this; cases this
 have f1 : (pend.map fun k => (k.1, k.2.1)).filter (fun k => !edge ops i k.1) = (pend.filter fun k => !edge ops i k.1).map fun k => (k.1, k.2.1) := by rw [List.filter_map]; rfl
 have f2 : (pend.map fun k => (k.1, k.2.2)).filter (fun k => !edge ops i k.1) = (pend.filter fun k => !edge ops i k.1).map fun k => (k.1, k.2.2) := by rw [List.filter_map]; rfl
 have f3 : (pend.map (·.1)).filter (fun k => !edge ops i k) = (pend.filter fun k => !edge ops i k.1).map (·.1) := by rw [List.filter_map]; rfl
 refine Ady ho hs hm hlt ?_ h0
 intro e' v w' hs' hK
 have hboth : JI (Qv ops i (pend.map fun k => (k.1, k.2.1))) e' w' ∧ KX P l e' w' K := by
  revert hK
  generalize Qv ops i (pend.map fun k => (k.1, k.2.1)) = c
  cases c with
  | nil => exact fun hK => ⟨trivial, hK⟩
  | cons c cs => exact fun hK => hK
 obtain ⟨hst, hK'⟩ := hboth
 have hpok : ∀ k ∈ pend, edge ops i k.1 = false → POK P ops (a.put o.dst v) w' k := by
  intro k hk hx
  obtain ⟨o', d', ho', hm', ht', hc', hssa', hd', hv'⟩ := hp k hk
  obtain ⟨d2, hd2, _, hall⟩ := JJ hssa'
  have hdk : FI ops k.1 = some d' := by simp [FI, ho', hd']
  rw [hdk] at hd2
  cases hd2
  have h1 := (hall i (Array.getElem?_eq_some_iff.1 ho).1 (fun e => hne k hk e.symm)).1
  rw [hdo] at h1
  have hv2 : (a.put o.dst v).tmps[d']? = some k.2.2 := by rw [LC a o.dst v d' h1]; exact hv'
  have hag : Agree ops k.1 a (a.put o.dst v) := La k.1 a o.dst v (fun t ht => OC (hoffk k hk hx) t (by rw [hdo]; exact ht))
  have hc2 := OZ ho' hm' hc' hag
  refine ⟨o', d', ho', hm', ht', ?_, hssa', hd', hv2⟩
  cases hld : ZC k.2.1
  ·exact Z5 hld hc2
  ·refine Z7 hs' hm' hd' hv2 hc2 (Td hst _ ?_)
   refine List.mem_map.2 ⟨(k.1, k.2.1), List.mem_filter.2 ⟨List.mem_map.2 ⟨k, hk, rfl⟩, ?_⟩, rfl⟩
   simp [hx, hld]
 refine ⟨?_, ?_⟩
 ·intro k' hk' hx
  obtain ⟨k, hk, rfl⟩ := List.mem_map.1 hk'
  obtain ⟨o', d', ho', hm', ht', hc', _⟩ := hpok k hk hx
  exact SC ho' hm' ht' hc'
 ·rw [f2]
  refine ih (pend.filter fun k => !edge ops i k.1) l (L.setIfInBounds i true) (by rw [← f1]; exact hl) (by rw [← f3]; exact hok') e' _ w' K hs' hq ?_ ?_ hK'
  ·intro k hk
   obtain ⟨h1, h2⟩ := List.mem_filter.1 hk
   exact hpok k h1 (by simpa using h2)
  ·intro k hk
   obtain ⟨h1, _⟩ := List.mem_filter.1 hk
   rw [JU L i k.1 (FY hi0), hL k h1]; rfl
theorem NF {Q : Exit → Act → World → Prop} : ∀ (s : Sch), DrOk P ops n Q s
 | .nil, pend, l, L, htr, hok, e, a, w, K, hs, hq, hp, hL, h0 => by
  simp only [Gp, Option.some.injEq] at htr
  subst htr
  exact hq e a w hs h0
 | .take i s, pend, l, L, htr, hok, e, a, w, K, hs, hq, hp, hL, h0 => by
  simp only [Gp] at htr
  split at htr
  ·cases htr
  ·rename_i m hm0
   obtain ⟨o, ho, hm, hlt⟩ := UO hm0
   have hdo : FI ops i = o.dst := by simp [FI, ho]
   split at htr
   ·rename_i hta
    cases hl : Gp P ops n s ((i, m) :: pend.map fun k => (k.1, k.2.1)) with
    | none => rw [hl] at htr; cases htr
    | some l' =>
     rw [hl] at htr
     simp only [Option.map_some, Option.some.injEq] at htr
     subst htr
     simp only [Dj, Bool.and_eq_true] at hok
     obtain ⟨⟨⟨hr, hssa⟩, hoff⟩, hok'⟩ := hok
     obtain ⟨d, hd, hself, hall⟩ := JJ hssa
     rw [hdo] at hd
     have hi0 : L.getD i true = false := (mem_ready.1 (by simpa using hr : i ∈ Region.ready .any ops L)).1
     have hdn := hlt d hd
     simp only [KX] at h0
     obtain ⟨u, hc, hK⟩ := Abi hs hm hta hd h0
     refine ⟨u, SC ho hm hta hc, ?_⟩
     rw [hdo, hd]
     have hoffk : ∀ k ∈ pend, PH ops i k.1 = true := fun k hk => List.all_eq_true.1 hoff k.1 (List.mem_map.2 ⟨k, hk, rfl⟩)
     have hself' : ∀ t, some d = some t → t ∉ looks ops i := fun t ht => by cases ht; exact hself
     refine NF s ((i, m, u) :: pend) l' (L.setIfInBounds i true) hl (by simpa using hok') (GK e d u) _ w K (hs.put hdn u) hq ?_ ?_ hK
     ·intro k hk
      rcases List.mem_cons.1 hk with rfl | hk
      ·exact ⟨o, d, ho, hm, hta, OZ ho hm hc (La i a (some d) u hself'), hssa, hd, Na a d u (by rw [hs.size]; exact hdn)⟩
      ·obtain ⟨o', d', ho', hm', ht', hc', hssa', hd', hv'⟩ := hp k hk
       refine ⟨o', d', ho', hm', ht', OZ ho' hm' hc' (La k.1 a (some d) u (fun t ht => ?_)), hssa', hd', ?_⟩
       ·have := OC (hoffk k hk) t (by rw [hdo, hd]; exact ht)
        exact this
       ·have hne : k.1 ≠ i := fun e => by have := hL k hk; rw [e, hi0] at this; cases this
        have h1 := (hall k.1 (Array.getElem?_eq_some_iff.1 ho').1 hne).1
        have hdk : FI ops k.1 = some d' := by simp [FI, ho', hd']
        rw [hdk] at h1
        rw [LC a (some d) u d' (fun e => h1 e.symm)]
        exact hv'
     ·intro k hk
      rcases List.mem_cons.1 hk with rfl | hk
      ·simp [FY hi0]
      ·rw [JU L i k.1 (FY hi0), hL k hk]; rfl
   ·cases htr
 | .act i s, pend, l, L, htr, hok, e, a, w, K, hs, hq, hp, hL, h0 => by
  simp only [Gp] at htr
  split at htr
  ·cases htr
  ·rename_i m hm0
   cases hl : Gp P ops n s ((pend.map fun k => (k.1, k.2.1)).filter fun k => !edge ops i k.1) with
   | none => rw [hl] at htr; cases htr
   | some l' =>
    rw [hl] at htr
    simp only [Option.map_some, Option.some.injEq] at htr
    subst htr
    simp only [Dj, Bool.and_eq_true, beq_iff_eq] at hok
    obtain ⟨⟨hr, hoff⟩, hok'⟩ := hok
    exact ZM (NF s) hm0 hl (by rw [hr]; simp) hoff hok' hs hq hp hL h0
 | .alt i s j t, pend, l, L, htr, hok, e, a, w, K, hs, hq, hp, hL, h0 => by
  simp only [Gp] at htr
  split at htr
  ·rename_i m m' hm0 hm0'
   split at htr
   ·rename_i l1 l2 hl hl'
    cases htr
    simp only [Dj, Bool.and_eq_true, beq_iff_eq] at hok
    obtain ⟨⟨hr, hoff, hok1⟩, hoff', hok2⟩ := hok
    exact ⟨ZM (NF s) hm0 hl (by rw [hr]; simp) hoff hok1 hs hq hp hL h0.1, ZM (NF t) hm0' hl' (by rw [hr]; simp) hoff' hok2 hs hq hp hL h0.2⟩
   ·cases htr
  ·cases htr

theorem Y4 {id : Nat} {l : DT} (h : trDr P n ops = some l) {e : Env} {a : Act} {w : World} {K : Env → World → Prop} {Q : Exit → Act → World → Prop} (hs : Sim n e a)
  (hq : ∀ e' a' w', Sim n e' a' → K e' w' → Q .normal a' w') (h0 : KX P l e w.drew K) : (Code.region id ops true).wp P Q a w := by
 unfold trDr at h
 split at h
 ·cases h
 ·rename_i s hms
  split at h
  ·rename_i hc
   simp only [Bool.and_eq_true] at hc
   obtain ⟨⟨⟨h1, h2⟩, h3⟩, h4⟩ := hc
   have hcw := NF (Q := fun x a w => x = .normal ∧ Q .normal a w) s [] l _ h h4 e a w.drew K hs (fun e' a' w' hs' hk => ⟨rfl, hq e' a' w' hs' hk⟩) (by simp) (by simp) h0
   refine Code.wp_mono (fun x a' w' hx => ?_) (AbZ h1 h2 h3 h4 (fun x a w hx => hx.1) hcw)
   obtain ⟨rfl, hx⟩ := hx
   exact hx
  ·cases h
end
def trC (P : Program) (n : Nat) : Code → Option MC
 | .skip => some .skip
 | .region _ ops false => (SS P n ops ops.toList).map fun l => .ops l
 | .region id ops true => match trDr P n ops with
  | some l => some (.dr l)
  | none => some (.raw n (.region id ops true))
 | .seq a b => match trC P n a, trC P n b with
  | some a, some b => some (.seq a b)
  | _, _ => none
 | .cond c t f => match trC P n t, trC P n f with
  | some t, some f => some (.cond c t f)
  | _, _ => none
 | .block id b => (trC P n b).map fun b => .block id b
 | .loop b => (trC P n b).map fun b => .loop b
 | .exit id => some (.exit id)
 | .ret => some .ret
 | c => some (.raw n c)

section
variable {P : Program} {n : Nat}

theorem Oper.wp_or {o : Oper} {a : Act} {w : World} {ops : Array Oper} {Q : Exit → Act → World → Prop} {rest : List Oper} (hw : Region.wanted o (yielded ops a.tmps) = true)
  (h : o.wp P a w (wpList P ops Q rest) Q) : wpList P ops Q (o :: rest) a w := by
 unfold wpList
 rw [if_pos hw]
 exact .inl h
theorem SI {o : Oper} {a : Act} {w : World} {ops : Array Oper} {Q : Exit → Act → World → Prop} {rest : List Oper} (hw : Region.wanted o (yielded ops a.tmps) = false)
  (h : wpList P ops Q rest (a.put o.dst undef) w) : wpList P ops Q (o :: rest) a w := by
 unfold wpList
 rw [if_neg (by simp [hw])]
 exact h
theorem YY {ops : Array Oper} {e : Env} {a : Act} {j g : Nat} {b : Bool} (hs : Sim n e a) (hg : (ops[j]?).bind (·.dst) = some g) (hb : AU e g = some (.bool b)) :
  yielded ops a.tmps j = some b := by
 simp [yielded, hg, hs.val g _ hb]

theorem YZ {ops : Array Oper} {e : Env} {a : Act} {j g : Nat} {cs : Array Value} (hs : Sim n e a) (hg : (ops[j]?).bind (·.dst) = some g) (hb : AU e g = some (.tuple cs)) :
  yielded ops a.tmps j = none := by
 simp [yielded, hg, hs.val g _ hb]
theorem QQ {ops : Array Oper} {Q : Exit → Act → World → Prop} : ∀ (l : List Oper) (ms : List MOp), SS P n ops l = some ms →
  ∀ (e : Env) (a : Act) (w : World) (K : Env → World → Prop), Sim n e a → (∀ e' a' w', Sim n e' a' → K e' w' → Q .normal a' w') → Tz P ms e w K → wpList P ops Q l a w
 | [], ms, h, e, a, w, K, hs, hk, h0 => by
  simp only [SS, Option.some.injEq] at h
  subst h
  exact hk e a w hs h0
 | o :: l, ms, h, e, a, w, K, hs, hk, h0 => by
  simp only [SS] at h
  cases h1 : trG P ops o with
  | none => rw [h1] at h; cases h
  | some m =>
   cases h2 : SS P n ops l with
   | none => rw [h1, h2] at h; cases h
   | some ms' =>
    rw [h1, h2] at h
    simp only at h
    split at h
    ·rename_i hlt'
     simp only [Option.some.injEq] at h
     subst h
     have hlt : ∀ d, o.dst = some d → d < n := fun d hd => by unfold AaV at hlt'; rw [hd] at hlt'; simpa using hlt'
     simp only [Tz] at h0
     have ih := fun e' a' w' hs' h0' => QQ l ms' h2 e' a' w' K hs' hk h0'
     unfold trG at h1
     split at h1
     ·rename_i hg
      refine Oper.wp_or (by simp [Region.wanted, hg]) ?_
      exact Ll h1 e a w _ _ Q hs hlt (fun e' v w' => ih e' _ w') h0
     ·rename_i j want hg
      split at h1
      ·rename_i g m' hj hm
       cases h1
       simp only [MOp.wp] at h0
       split at h0
       ·rename_i b hb
        have hy := YY (ops := ops) hs hj hb
        cases hbw : b == want
        ·refine SI (by simp only [Region.wanted, hg, hy]; simpa using hbw) ?_
         have h3 := h0.2 hbw
         cases hd : o.dst with
         | none => rw [hd] at h3; exact ih _ _ _ hs h3
         | some d => rw [hd] at h3; exact ih _ _ _ (hs.put (hlt d hd) _) h3
        ·refine Oper.wp_or (by simp only [Region.wanted, hg, hy]; simpa using hbw) ?_
         exact Ll hm e a w _ _ Q hs hlt (fun e' v w' => ih e' _ w') (h0.1 hbw)
       ·rename_i cs hb
        have hy := YZ (ops := ops) hs hj hb
        refine SI (by simp only [Region.wanted, hg, hy]; rfl) ?_
        cases hd : o.dst with
        | none => rw [hd] at h0; exact ih _ _ _ hs h0
        | some d => rw [hd] at h0; exact ih _ _ _ (hs.put (hlt d hd) _) h0
       ·exact h0.elim
      ·cases h1
    ·cases h

theorem exists_least {p : Nat → Prop} (h : ∃ k, p k) : ∃ k, p k ∧ ∀ j, p j → k ≤ j := by
 obtain ⟨k, hk⟩ := h
 induction k using Nat.strongRecOn with
 | _ k ih =>
  by_cases h : ∃ j, j < k ∧ p j
  ·obtain ⟨j, hj, hp⟩ := h
   exact ih j hj hp
  ·exact ⟨k, hk, fun j hj => Nat.le_of_not_lt fun hlt => h ⟨j, hlt, hj⟩⟩
open Classical in
noncomputable def least (p : Nat → Prop) : Nat := if h : ∃ k, p k then (exists_least h).choose else 0
theorem LG {p : Nat → Prop} (h : ∃ k, p k) : p (least p) ∧ ∀ j, p j → least p ≤ j := by
 unfold least
 rw [dif_pos h]
 exact (exists_least h).choose_spec
theorem Y0 {c : Code} {Q : Exit → Act → World → Prop} {a : Act} {w : World} (I : Nat → Act → World → Prop) {k : Nat} (h0 : I k a w)
  (round : ∀ k a w, I k a w → c.wp P (Exit.then (fun a' w' => ∃ k', k' < k ∧ I k' a' w') Q) a w) : (Code.loop c).wp P Q a w := by
 refine wp_loop (fun a w => ∃ k, I k a w) (fun a w => least fun k => I k a w) ⟨k, h0⟩ fun a w hI => ?_
 have hs := LG hI
 refine Code.wp_mono (fun x a' w' hx => ?_) (round _ a w hs.1)
 cases x <;> first
  | exact hx
  | (obtain ⟨k', hlt, hk⟩ := hx; exact ⟨⟨k', hk⟩, Nat.lt_of_le_of_lt ((LG ⟨k', hk⟩).2 k' hk) hlt⟩)

theorem IB : ∀ (c : Code) (m : MC), trC P n c = some m → ∀ (Q : Exit → Env → World → Prop) (Q' : Exit → Act → World → Prop) (e : Env) (a : Act) (w : World),
  Sim n e a → (∀ x e' a' w', Sim n e' a' → Q x e' w' → Q' x a' w') → m.wp P Q e w → c.wp P Q' a w
 | .skip, m, h, Q, Q', e, a, w, hs, hq, h0 => by
  simp only [trC, Option.some.injEq] at h; subst h
  exact wp_skip (hq _ _ _ _ hs h0)
 | .region id ops false, m, h, Q, Q', e, a, w, hs, hq, h0 => by
  simp only [trC] at h
  cases hl : SS P n ops ops.toList with
  | none => rw [hl] at h; cases h
  | some l =>
   rw [hl] at h
   simp only [Option.map_some, Option.some.injEq] at h
   subst h
   exact wp_region_list (QQ _ _ hl e a w _ hs (fun e' a' w' => hq _ _ _ _) h0)
 | .region id ops true, m, h, Q, Q', e, a, w, hs, hq, h0 => by
  simp only [trC] at h
  split at h
  ·rename_i l hl
   cases h
   exact Y4 hl hs (fun e' a' w' => hq _ _ _ _) h0
  ·cases h
   exact Code.wp_mono (fun x a' w' ⟨e', hs', hq'⟩ => hq _ _ _ _ hs' hq') (h0 a hs)
 | .seq x y, m, h, Q, Q', e, a, w, hs, hq, h0 => by
  simp only [trC] at h
  cases hx : trC P n x with
  | none => rw [hx] at h; cases h
  | some mx =>
   cases hy : trC P n y with
   | none => rw [hx, hy] at h; cases h
   | some my =>
    rw [hx, hy] at h
    simp only [Option.some.injEq] at h
    subst h
    refine wp_seq (IB x mx hx _ _ e a w hs ?_ h0)
    intro ex e' a' w' hs' hq'
    cases ex <;> first | exact hq _ _ _ _ hs' hq' | exact IB y my hy Q Q' e' a' w' hs' hq hq'
 | .cond c t f, m, h, Q, Q', e, a, w, hs, hq, h0 => by
  simp only [trC] at h
  cases ht : trC P n t with
  | none => rw [ht] at h; cases h
  | some mt =>
   cases hf : trC P n f with
   | none => rw [ht, hf] at h; cases h
   | some mf =>
    rw [ht, hf] at h
    simp only [Option.some.injEq] at h
    subst h
    simp only [MC.wp] at h0
    split at h0
    ·rename_i b hb
     refine wp_cond_split (hs.ev hb) (fun hbt => ?_) (fun hbf => ?_)
     ·exact IB t mt ht Q Q' e a w hs hq (h0.1 hbt)
     ·exact IB f mf hf Q Q' e a w hs hq (h0.2 hbf)
    ·exact h0.elim
 | .block id b, m, h, Q, Q', e, a, w, hs, hq, h0 => by
  simp only [trC] at h
  cases hb : trC P n b with
  | none => rw [hb] at h; cases h
  | some mb =>
   rw [hb] at h
   simp only [Option.map_some, Option.some.injEq] at h
   subst h
   refine wp_block (IB b mb hb _ _ e a w hs ?_ h0)
   intro ex e' a' w' hs' hq'
   cases ex with
   | exit i =>
    simp only [Exit.inBlock, W9] at hq' ⊢
    cases hb : Nat.beq i id <;> rw [hb] at hq'
    ·rw [if_neg (Nat.ne_of_beq_eq_false hb)]; exact hq _ _ _ _ hs' hq'
    ·rw [if_pos (Nat.eq_of_beq_eq_true hb)]; exact hq _ _ _ _ hs' hq'
   | _ => exact hq _ _ _ _ hs' hq'
 | .loop b, m, h, Q, Q', e, a, w, hs, hq, h0 => by
  simp only [trC] at h
  cases hb : trC P n b with
  | none => rw [hb] at h; cases h
  | some mb =>
   rw [hb] at h
   simp only [Option.map_some, Option.some.injEq] at h
   subst h
   obtain ⟨live, I, μ, hI, hr⟩ := h0
   -- the relation on the real frame: some known frame fits it; the measure is carried beside
   refine Y0 (P := P) (fun k a w => ∃ e, Sim n e a ∧ I e w ∧ μ e w = k) (k := μ (Jp live e) w) ⟨Jp live e, hs.keep live, hI, rfl⟩ ?_
   rintro k a w ⟨e, hs', hI', rfl⟩
   refine IB b mb hb _ _ e a w hs' ?_ (hr e w hI')
   intro ex e' a' w' hs'' hq'
   cases ex <;> first | exact hq _ _ _ _ hs'' hq' | exact ⟨_, hq'.2, Jp live e', hs''.keep live, hq'.1, rfl⟩
 | .exit id, m, h, Q, Q', e, a, w, hs, hq, h0 => by
  simp only [trC, Option.some.injEq] at h; subst h
  exact wp_exit (hq _ _ _ _ hs h0)
 | .ret, m, h, Q, Q', e, a, w, hs, hq, h0 => by
  simp only [trC, Option.some.injEq] at h; subst h
  exact wp_ret (hq _ _ _ _ hs h0)
 | .rangeFunc f ps x y, m, h, Q, Q', e, a, w, hs, hq, h0 => by
  simp only [trC, Option.some.injEq] at h; subst h
  exact Code.wp_mono (fun x a' w' ⟨e', hs', hq'⟩ => hq _ _ _ _ hs' hq') (h0 a hs)
 | .scope x, m, h, Q, Q', e, a, w, hs, hq, h0 => by
  simp only [trC, Option.some.injEq] at h; subst h
  exact Code.wp_mono (fun x a' w' ⟨e', hs', hq'⟩ => hq _ _ _ _ hs' hq') (h0 a hs)
 | .label x, m, h, Q, Q', e, a, w, hs, hq, h0 => by
  simp only [trC, Option.some.injEq] at h; subst h
  exact Code.wp_mono (fun x a' w' ⟨e', hs', hq'⟩ => hq _ _ _ _ hs' hq') (h0 a hs)
 | .goto x, m, h, Q, Q', e, a, w, hs, hq, h0 => by
  simp only [trC, Option.some.injEq] at h; subst h
  exact Code.wp_mono (fun x a' w' ⟨e', hs', hq'⟩ => hq _ _ _ _ hs' hq') (h0 a hs)
 | .refuse x, m, h, Q, Q', e, a, w, hs, hq, h0 => by
  simp only [trC, Option.some.injEq] at h; subst h
  exact Code.wp_mono (fun x a' w' ⟨e', hs', hq'⟩ => hq _ _ _ _ hs' hq') (h0 a hs)
end
def trR (P : Program) : List ResultVar → Option (List RV)
 | [] => some []
 | .tmp t :: l => (trR P l).map fun r => .t t :: r
 | .cell a t :: l => match Jq P t, Bh P t, trR P l with
  | some true, some n, some r => some (.cn a n :: r)
  | some false, _, some r => some (.c a :: r)
  | _, _, _ => none
def trF (P : Program) (f : FuncId) : Option MF :=
 match P.funcs[f]? with
 | none => none
 | some fn => match fn.body with
  | none => none
  | some c => match trC P fn.ntmps c, trR P fn.results.toList with
   | some m, some r => some ⟨fn.ntmps, r, m⟩
   | _, _ => none

section
variable {P : Program} {n : Nat}

theorem Um : ∀ (i : Nat) (vs : List Value) (t : Nat) (v : Value), AU (NQ i vs) t = some v → i ≤ t ∧ vs[t - i]? = some v
 | i, [], t, v, h => by simp [NQ, AU] at h
 | i, u :: vs, t, v, h => by
  simp only [NQ, IR] at h
  split at h
  ·rename_i hit
   subst hit
   simpa using h
  ·rename_i hne
   obtain ⟨h1, h2⟩ := Um (i + 1) vs t v h
   refine ⟨by omega, ?_⟩
   rw [show t - i = (t - (i + 1)) + 1 from by omega]
   simpa using h2

theorem XG (l : List RV) : ∀ (rs : List ResultVar) (e : Env) (a : Act) (w : World) (K : List Value → Prop), trR P rs = some l → Sim n e a → HY l e w K →
  ∃ vs, (rs.mapM fun
   | .tmp t => pure (a.tmps.getD t undef)
   | .cell x t => do loadVar t (← asAddr (a.tmps.getD x undef)) : Sem (List Value)).run P w = .ok vs w ∧ K vs := by
 induction l with
 | nil =>
  intro rs e a w K h hs h0
  cases rs with
  | nil => exact ⟨[], by simp, h0⟩
  | cons r rs =>
   cases r with
   | tmp t => simp only [trR] at h; cases hr : trR P rs <;> rw [hr] at h <;> cases h
   | cell x t =>
    simp only [trR] at h
    split at h <;> cases h
 | cons r l ih =>
  intro rs e a w K h hs h0
  cases rs with
  | nil => cases h
  | cons q rs =>
   cases q with
   | tmp t =>
    simp only [trR] at h
    cases hr : trR P rs with
    | none => rw [hr] at h; cases h
    | some l' =>
     rw [hr] at h
     cases h
     simp only [HY] at h0
     split at h0
     ·rename_i v hv
      obtain ⟨vs, hrun, hK⟩ := ih rs e a w _ hr hs h0
      refine ⟨v :: vs, ?_, hK⟩
      have : a.tmps.getD t undef = v := by simp [hs.val t v hv]
      rw [List.mapM_cons]
      simp only [this, Sem.run_bind, Sem.run_pure, Result.andThen_ok, hrun]
     ·exact h0.elim
   | cell x t =>
    simp only [trR] at h
    split at h
    ·rename_i m l' ha hsz hr
     cases h
     simp only [HY] at h0
     split at h0
     ·rename_i ad hv
      obtain ⟨vs', hl, hc, hK'⟩ := h0
      subst hl
      obtain ⟨vs, hrun, hK⟩ := ih rs e a w _ hr hs hK'
      refine ⟨.agg vs'.toArray :: vs, ?_, hK⟩
      have : a.tmps.getD x undef = .pointer (some ad) := by simp [hs.val x _ hv]
      have hx : (do loadVar t (← asAddr (a.tmps.getD x undef)) : Sem Value).run P w = .ok (.agg vs'.toArray) w := by
       rw [this]
       simp [asAddr, loadVar, Fe ha, run_sizeOf hsz, loadCells, run_loadCellsFrom vs' ad 0 #[] w (by simpa using hc)]
      rw [List.mapM_cons, Sem.run_bind]
      erw [hx]
      simp only [Result.andThen_ok, Sem.run_bind, hrun, Sem.run_pure]
     ·exact h0.elim
    ·rename_i l' ha hsz hr
     cases h
     simp only [HY] at h0
     split at h0
     ·rename_i ad hv
      obtain ⟨v, hc, hK'⟩ := h0
      obtain ⟨vs, hrun, hK⟩ := ih rs e a w _ hr hs hK'
      refine ⟨v :: vs, ?_, hK⟩
      have : a.tmps.getD x undef = .pointer (some ad) := by simp [hs.val x _ hv]
      have hx : (do loadVar t (← asAddr (a.tmps.getD x undef)) : Sem Value).run P w = .ok v w := by
       rw [this]
       simp [asAddr, loadVar, Fe hsz, hc]
      rw [List.mapM_cons, Sem.run_bind]
      erw [hx]
      simp only [Result.andThen_ok, Sem.run_bind, hrun, Sem.run_pure]
     ·exact h0.elim
    ·cases h

theorem XI {fn : Func} {l : List RV} {e : Env} {a : Act} {w : World} {K : List Value → Prop} (h : trR P fn.results.toList = some l) (hs : Sim n e a) (h0 : HY l e w K) :
  ∃ vs, (results fn a.tmps).run P w = .ok (Y1 vs) w ∧ K vs := by
 obtain ⟨vs, hr, hK⟩ := XG l fn.results.toList e a w K h hs h0
 refine ⟨vs, ?_, hK⟩
 unfold results
 rw [Array.mapM_eq_mapM_toList]
 simp only [Sem.run_bind, Sem.run_map]
 erw [hr]
 simp only [Result.andThen_ok, Sem.run_pure]
 rcases vs with _ | ⟨v, _ | ⟨u, vs⟩⟩ <;> simp [Y1]

theorem Yt {f : FuncId} {mf : MF} {args : List Value} {w : World} {K : Value → World → Prop} (h : trF P f = some mf) (hn : args.length ≤ mf.n)
  (h0 : mf.body.wp P (retQ mf.res K) (NQ 0 args) w) : Calls P f args.toArray w fun e w' => ∃ v, e = .returned v ∧ K v w' := by
 unfold trF at h
 split at h
 ·cases h
 ·rename_i fn hf
  split at h
  ·cases h
  ·rename_i c hc
   split at h
   ·rename_i m r hm hr
    cases h
    refine calls_of_wp hf hc ?_
    refine IB c m hm _ _ (NQ 0 args) _ w ⟨?_, rfl, ?_⟩ ?_ h0
    ·have hn' : args.length ≤ fn.ntmps := hn
     simp; omega
    ·intro t v hv
     obtain ⟨_, h2⟩ := Um 0 args t v hv
     simp only [Nat.sub_zero] at h2
     have hlt := (List.getElem?_eq_some_iff.1 h2).1
     rw [Array.getElem?_append_left (by simpa using hlt)]
     simpa using h2
    ·intro x e' a' w' hs hq
     cases x <;> simp only [retQ] at hq <;> first | exact hq.elim | skip
     all_goals
      obtain ⟨vs, hrun, hK⟩ := XI hr hs hq
      exact ⟨hs.defers, _, hrun, _, rfl, hK⟩
   ·cases h
end
section
variable {P : Program} {n k l : Nat} {ops : Array Oper}

def MC.whole : MC → Bool
 | .raw _ _ => false
 | .seq a b => a.whole && b.whole
 | .cond _ t f => t.whole && f.whole
 | .block _ b => b.whole
 | .loop b => b.whole
 | _ => true
end
theorem YV (K : Prop) (t : Tag K) : Chk True K t = K := by simp [Chk]
theorem Adz {p : Prop} (h : p) (K : Prop) (t : Tag K) : Chk p K t = K := by simp [Chk, h]
theorem Abd (X Y : Prop) (t : Tag X) (u : Tag Y) : Br true X Y t u = X := by simp [Br]
theorem YW (X Y : Prop) (t : Tag X) (u : Tag Y) : Br false X Y t u = Y := by simp [Br]
theorem AdA {p : Prop} [Decidable p] (h : p) (X Y : Prop) (t : Tag X) (u : Tag Y) : Br (decide p) X Y t u = X := by simp [Br, h]
theorem AdB {p : Prop} [Decidable p] (h : ¬ p) (X Y : Prop) (t : Tag X) (u : Tag Y) : Br (decide p) X Y t u = Y := by simp [Br, h]
theorem Abe {p : Prop} [Decidable p] (h : p) (X Y : Prop) (t : Tag X) (u : Tag Y) : Br (!decide p) X Y t u = Y := by simp [Br, h]
theorem Abf {p : Prop} [Decidable p] (h : ¬ p) (X Y : Prop) (t : Tag X) (u : Tag Y) : Br (!decide p) X Y t u = X := by simp [Br, h]
theorem beq_t (b : Bool) : (b == true) = b := by cases b <;> rfl
theorem beq_f (b : Bool) : (b == false) = !b := by cases b <;> rfl
theorem XY (b : Bool) : (!!b) = b := by cases b <;> rfl
theorem Yk : decide True = true := rfl
theorem VA : decide False = false := rfl
theorem WN {p : Prop} [Decidable p] (h : p) : decide p = true := by simp [h]
theorem Su {p : Prop} [Decidable p] (h : ¬ p) : decide p = false := by simp [h]
theorem not_t : (!true) = false := rfl
theorem not_f : (!false) = true := rfl
theorem AcG {α : Type} (a b : α) : (if true = true then a else b) = a := rfl
theorem AcH {α : Type} (a b : α) : (if false = true then a else b) = b := rfl
theorem take1 {α : Type} (a : α) (l : List α) : (a :: l).take 1 = [a] := rfl
theorem drop1 {α : Type} (a : α) (l : List α) : (a :: l).drop 1 = l := rfl
theorem drop0 {α : Type} (l : List α) : l.drop 0 = l := rfl
theorem take0 {α : Type} (l : List α) : l.take 0 = [] := rfl
theorem Sz {α : Type} (a b : List α) : a.toArray ++ b.toArray = (a ++ b).toArray := by simp
theorem Adl : (true != true) = false := rfl
theorem Adm : (true != false) = true := rfl
theorem Adn : (false != true) = true := rfl
theorem Ado : (false != false) = false := rfl
theorem Adp : (true == true) = true := rfl
theorem Adq : (true == false) = false := rfl
theorem Adr : (false == true) = false := rfl
theorem Ads : (false == false) = true := rfl

theorem VJ (k : IntKind) (n : Int) : (Value.int k n).cells = #[.int k n] := rfl
theorem TY (b : Bool) : (Value.bool b).cells = #[.bool b] := rfl
theorem VF (b : ByteArray) : (Value.string b).cells = #[.string b] := rfl
theorem VG (a : Option Addr) : (Value.pointer a).cells = #[.pointer a] := rfl
theorem Rt (a : Option Addr) (n c : Nat) : (Value.slice a n c).cells = #[.slice a n c] := rfl
theorem cells_func (f : Fn) (a b : Array Value) : (Value.func f a b).cells = #[.func f a b] := rfl
theorem TV : Value.nilFunc.cells = #[.nilFunc] := rfl
theorem TW : Value.nilIface.cells = #[.nilIface] := rfl
theorem Ru (t : TypeId) (v : Value) : (Value.iface t v).cells = #[.iface t v] := rfl
theorem VH (m : Option Nat) : (Value.map m).cells = #[.map m] := rfl
theorem VK (cs : Array Value) : (Value.agg cs).cells = cs := rfl
theorem AaG (k : IntKind) (n : Int) : (Value.int k n).oneCell' = true := rfl
theorem XV (b : Bool) : (Value.bool b).oneCell' = true := rfl
theorem AaD (b : ByteArray) : (Value.string b).oneCell' = true := rfl
theorem AaE (a : Option Addr) : (Value.pointer a).oneCell' = true := rfl
theorem U9 (a : Option Addr) (n c : Nat) : (Value.slice a n c).oneCell' = true := rfl
theorem XU (f : Fn) (a b : Array Value) : (Value.func f a b).oneCell' = true := rfl
theorem XR : Value.nilFunc.oneCell' = true := rfl
theorem XT : Value.nilIface.oneCell' = true := rfl
theorem Va (t : TypeId) (v : Value) : (Value.iface t v).oneCell' = true := rfl
theorem AaF (m : Option Nat) : (Value.map m).oneCell' = true := rfl
theorem XD {v : Value} : (#[v] : Array Value).size = 1 := rfl
theorem SX {v : Value} : (#[v] : Array Value).toList = [v] := rfl
theorem chk {p K : Prop} {t : Tag K} (h : p) (k : K) : Chk p K t := ⟨h, k⟩
theorem brd {p : Prop} [Decidable p] {X Y : Prop} {t : Tag X} {u : Tag Y} (h : p → X) (k : ¬ p → Y) : Br (decide p) X Y t u :=
 ⟨fun e => h (by simpa using e), fun e => k (by simpa using e)⟩
theorem brn {p : Prop} [Decidable p] {X Y : Prop} {t : Tag X} {u : Tag Y} (h : ¬ p → X) (k : p → Y) : Br (!decide p) X Y t u :=
 ⟨fun e => h (by simpa using e), fun e => k (by simpa using e)⟩
theorem ld {c : Option Value} {v : Value} {K : Value → Prop} {t : A7 K} (h : c = some v) (k : K v) : Ld c K t := ⟨v, h, k⟩
theorem call {P : Program} {f : FuncId} {args : Array Value} {w : World} {R : Value → World → Prop} {K : Value → World → Prop} {t : A7 K}
  (h : Calls P f args w fun e w' => ∃ v, e = .returned v ∧ R v w') (k : ∀ v w', R v w' → K v w') : Call P f args w K t :=
 h.mono fun _ _ ⟨v, he, hr⟩ => ⟨v, he, k _ _ hr⟩

theorem wrap_i64 {x : Int} (h : -9223372036854775808 ≤ x ∧ x ≤ 9223372036854775807) : IntKind.i64.wrap x = x := by
 unfold IntKind.wrap
 simp only [IntKind.bits, IntKind.signed]
 by_cases h0 : 0 ≤ x
 ·have : x % 18446744073709551616 = x := by omega
  simp [this]
  omega
 ·have : x % 18446744073709551616 = x + 18446744073709551616 := by omega
  simp [this]
  omega
theorem wrap_u64 {x : Int} (h : 0 ≤ x ∧ x ≤ 18446744073709551615) : IntKind.u64.wrap x = x := by
 unfold IntKind.wrap
 simp only [IntKind.bits, IntKind.signed]
 have : x % 18446744073709551616 = x := by omega
 simp [this]
theorem Xq {a b : Int} (h : 0 ≤ a) : a.tdiv b = a / b := Int.tdiv_eq_ediv_of_nonneg h
theorem Xp {a b : Int} (h : 0 ≤ a) : a.tmod b = a % b := Int.tmod_eq_emod_of_nonneg h

theorem Chk.imp {p K K' : Prop} {t : Tag K} {t' : Tag K'} (h : Chk p K t) (k : K → K') : Chk p K' t' := ⟨h.1, k h.2⟩
theorem MOp.wp_mono {P : Program} {m : MOp} {e : Env} {w : World} {K K' : Env → World → Prop} (hk : ∀ e w, K e w → K' e w) (h : m.wp P e w K) : m.wp P e w K' := by
 induction m with
 | p d f xs =>
  simp only [MOp.wp] at h ⊢
  split <;> rename_i hx <;> rw [hx] at h
  ·simp only at h ⊢
   split <;> rename_i hy <;> rw [hy] at h
   ·exact ⟨h.1, hk _ _ h.2⟩
   ·exact h
  ·exact h
 | ld d x =>
  simp only [MOp.wp] at h ⊢
  split <;> rename_i hx
  ·rw [hx] at h; obtain ⟨v, hv, h⟩ := h; exact ⟨v, hv, hk _ _ h⟩
  ·split at h
   ·exact absurd ‹_› (hx _)
   ·exact h
 | ldn d n x =>
  simp only [MOp.wp] at h ⊢
  split <;> rename_i hx
  ·rw [hx] at h; obtain ⟨v, hl, hv, h⟩ := h; exact ⟨v, hl, hv, hk _ _ h⟩
  ·split at h
   ·exact absurd ‹_› (hx _)
   ·exact h
 | bs d x =>
  simp only [MOp.wp] at h ⊢
  split <;> rename_i hx
  ·rw [hx] at h; obtain ⟨v, hl, hv, h⟩ := h; exact ⟨v, hl, hv, hk _ _ h⟩
  ·split at h
   ·exact absurd ‹_› (hx _ _ _)
   ·exact h
 | st n agg x v =>
  simp only [MOp.wp] at h ⊢
  split
  ·rename_i a u hx hv
   rw [hx, hv] at h
   simp only at h
   cases agg with
   | true => cases u <;> simp only at h ⊢ <;> first | exact h | (obtain ⟨h1, w', h2, h3⟩ := h; exact ⟨h1, w', h2, hk _ _ h3⟩)
   | false => cases u <;> simp only at h ⊢ <;> (obtain ⟨h1, w', h2, h3⟩ := h; exact ⟨h1, w', h2, hk _ _ h3⟩)
  ·rename_i hne
   split at h
   ·exact absurd ‹_› (fun hv => hne _ _ ‹_› hv)
   ·exact h
 | new d t z => exact hk _ _ h
 | box d t v =>
  simp only [MOp.wp] at h ⊢
  split <;> rename_i hx <;> rw [hx] at h
  ·exact hk _ _ h
  ·exact h
 | bsl d t len z ps vs =>
  simp only [MOp.wp] at h ⊢
  split <;> rename_i hx <;> rw [hx] at h
  ·simp only at h ⊢
   split <;> rename_i hy <;> rw [hy] at h
   ·exact hk _ _ h
   ·exact h
  ·exact h
 | app d ats ty s x =>
  simp only [MOp.wp] at h ⊢
  split
  ·rename_i u v hu hv
   rw [hu, hv] at h
   obtain ⟨r, w', hr, h⟩ := h
   exact ⟨r, w', hr, hk _ _ h⟩
  ·rename_i hne
   split at h
   ·exact absurd ‹_› (fun hv => hne _ _ ‹_› hv)
   ·exact h
 | call d f xs =>
  simp only [MOp.wp] at h ⊢
  split <;> rename_i hx <;> rw [hx] at h
  ·exact h.mono fun e w ⟨v, he, h⟩ => ⟨v, he, hk _ _ h⟩
  ·exact h
 | callv d f xs =>
  simp only [MOp.wp] at h ⊢
  split
  ·rename_i hx hy
   rw [hx, hy] at h
   exact ⟨h.1, h.2.mono fun e w ⟨v, he, h⟩ => ⟨v, he, hk _ _ h⟩⟩
  ·rename_i hne
   split at h
   ·exact absurd ‹_› (fun hv => hne _ _ _ _ ‹_› hv)
   ·exact h
 | gen d o =>
  simp only [MOp.wp] at h ⊢
  split <;> rename_i hx
  ·rw [if_pos hx] at h
   rcases h with ⟨v, w', hr, h⟩ | ⟨f, args, w', hr, h⟩
   ·exact .inl ⟨v, w', hr, hk _ _ h⟩
   ·exact .inr ⟨f, args, w', hr, h.mono fun e w ⟨v, he, h⟩ => ⟨v, he, hk _ _ h⟩⟩
  ·rw [if_neg hx] at h; exact h
 | genu o =>
  simp only [MOp.wp] at h ⊢
  split <;> rename_i hx
  ·rw [if_pos hx] at h
   obtain ⟨w', hr, h⟩ := h
   exact ⟨w', hr, hk _ _ h⟩
  ·rw [if_neg hx] at h; exact h
 | gd g want d o ih =>
  simp only [MOp.wp] at h ⊢
  split <;> rename_i hx
  ·rw [hx] at h
   refine ⟨fun hb => ih (h.1 hb), fun hb => ?_⟩
   have := h.2 hb
   cases d <;> exact hk _ _ this
  ·rw [hx] at h
   cases d <;> exact hk _ _ h
  ·rename_i hnb
   split at h
   ·rename_i heq; exact (hnb _ heq).elim
   ·rename_i heq; exact (hx _ heq).elim
   ·exact h
theorem Tv {P : Program} {K K' : Env → World → Prop} (hk : ∀ e w, K e w → K' e w) : ∀ {l : List MOp} {e : Env} {w : World}, Tz P l e w K → Tz P l e w K'
 | [], _, _, h => hk _ _ h
 | _ :: _, _, _, h => MOp.wp_mono (fun _ _ h => Tv hk h) h
theorem IU {P : Program} {K K' : Env → World → Prop} (hk : ∀ e w, K e w → K' e w) : ∀ {l : DT} {e : Env} {w : World}, KX P l e w K → KX P l e w K'
 | .nil, _, _, h => hk _ _ h
 | .one s l, _, _, h => by
  refine MOp.wp_mono (fun e w h => ?_) h
  revert h
  cases s.chk with
  | nil => exact IU hk
  | cons c cs => exact fun h => ⟨h.1, IU hk h.2⟩
 | .alt s l s' l', _, _, h => by
  refine ⟨MOp.wp_mono (fun e w h => ?_) h.1, MOp.wp_mono (fun e w h => ?_) h.2⟩
  ·revert h
   cases s.chk with
   | nil => exact IU hk
   | cons c cs => exact fun h => ⟨h.1, IU hk h.2⟩
  ·revert h
   cases s'.chk with
   | nil => exact IU hk
   | cons c cs => exact fun h => ⟨h.1, IU hk h.2⟩
theorem MC.wp_mono {P : Program} {m : MC} : ∀ {Q Q' : Exit → Env → World → Prop} {e : Env} {w : World}, (∀ x e w, Q x e w → Q' x e w) → m.wp P Q e w → m.wp P Q' e w := by
 induction m with
 | skip => intro Q Q' e w hq h; exact hq _ _ _ h
 | ops l => intro Q Q' e w hq h; exact Tv (fun _ _ => hq _ _ _) h
 | dr l => intro Q Q' e w hq h; exact IU (fun _ _ => hq _ _ _) h
 | seq a b iha ihb =>
  intro Q Q' e w hq h
  refine iha (fun x e w h => ?_) h
  cases x <;> first | exact hq _ _ _ h | exact ihb hq h
 | cond c t f iht ihf =>
  intro Q Q' e w hq h
  simp only [MC.wp] at h ⊢
  split <;> rename_i hx
  ·rw [hx] at h; exact ⟨fun hb => iht hq (h.1 hb), fun hb => ihf hq (h.2 hb)⟩
  ·split at h
   ·exact absurd ‹_› (hx _)
   ·exact h
 | block id b ih =>
  intro Q Q' e w hq h
  refine ih (fun x e w h => ?_) h
  cases x <;> simp only [W9] at h ⊢ <;> first | exact hq _ _ _ h | skip
  split <;> rename_i hb <;> rw [hb] at h
  ·exact hq _ _ _ h
  ·exact hq _ _ _ h
 | loop b ih =>
  intro Q Q' e w hq h
  obtain ⟨live, I, μ, hI, hr⟩ := h
  refine ⟨live, I, μ, hI, fun e w h => ih (fun x e w h => ?_) (hr e w h)⟩
  cases x <;> first | exact h | exact hq _ _ _ h
 | exit id => intro Q Q' e w hq h; exact hq _ _ _ h
 | ret => intro Q Q' e w hq h; exact hq _ _ _ h
 | raw n c => intro Q Q' e w hq h; exact fun a ha => Code.wp_mono (fun x a w ⟨e, hs, h⟩ => ⟨e, hs, hq _ _ _ h⟩) (h a ha)

end Go.Sl
end
section
namespace Go.Sl
open Go.RowKit
structure Fr (M : Nat → Prop) (w w' : World) : Prop where
 os : w'.os = w.os
 tape : w'.tape = w.tape
 output : w'.output = w.output
 size : w.heap.size ≤ w'.heap.size
 same : ∀ b, b < w.heap.size → ¬ M b → w'.heap[b]? = w.heap[b]?
def No (_ : Nat) : Prop := False
theorem Fr.refl (M : Nat → Prop) (w : World) : Fr M w w := ⟨rfl, rfl, rfl, Nat.le_refl _, fun _ _ _ => rfl⟩
theorem Fr.mono {M M' : Nat → Prop} {w w' : World} (h : Fr M w w') (hm : ∀ b, b < w.heap.size → M b → M' b) : Fr M' w w' :=
 ⟨h.os, h.tape, h.output, h.size, fun b hb hn => h.same b hb fun hM => hn (hm b hb hM)⟩
theorem Fr.wide {M : Nat → Prop} {w w' : World} (h : Fr No w w') : Fr M w w' := h.mono fun _ _ h => h.elim
theorem Fr.step {M M' : Nat → Prop} {w w1 w2 : World} (h : Fr M w w1) (k : Fr M' w1 w2) (hm : ∀ b, b < w.heap.size → M' b → M b) : Fr M w w2 :=
 ⟨k.os.trans h.os, k.tape.trans h.tape, k.output.trans h.output, Nat.le_trans h.size k.size, fun b hb hn =>
  (k.same b (Nat.lt_of_lt_of_le hb h.size) fun hM => hn (hm b hb hM)).trans (h.same b hb hn)⟩
theorem Fr.trans {M : Nat → Prop} {w w1 w2 : World} (h : Fr M w w1) (k : Fr M w1 w2) : Fr M w w2 := h.step k fun _ _ h => h
theorem Fr.then {M : Nat → Prop} {w w1 w2 : World} (h : Fr M w w1) (k : Fr No w1 w2) : Fr M w w2 := h.step k fun _ _ h => h.elim
theorem Fr.drew {M : Nat → Prop} {w w' : World} (h : Fr M w w') : Fr M w w'.drew := ⟨h.os, h.tape, h.output, h.size, h.same⟩
theorem Fr.below {w w' : World} (h : Fr No w w') : Below w.heap.size w w' := ⟨h.os, h.tape, h.output, h.size, fun b hb => h.same b hb fun h => h⟩
theorem Fr.of_below {w w' : World} (h : Below w.heap.size w w') : Fr No w w' := ⟨h.os, h.tape, h.output, h.size, fun b hb _ => h.block b hb⟩
theorem Fr.of_grown {w w' : World} {row : Option Nat} (h : w.grownBy w' row) : Fr (fun b => some b = row) w w' := ⟨h.os, h.tape, h.output, h.size, fun b hb hn => h.block b hb hn⟩
theorem Fr.alloc (w : World) (o : Obj) : Fr No w (w.alloc o) := ⟨rfl, rfl, rfl, by simp, fun b hb _ => Below.heap_alloc w o b hb⟩
theorem Fr.cell {M : Nat → Prop} {w w' : World} (h : Fr M w w') {a : Addr} (hb : a.block < w.heap.size) (hn : ¬ M a.block) : w'.cell? a = w.cell? a :=
 World.cell?_of_block (h.same a.block hb hn)
theorem KG {w : World} {a : Addr} {v : Value} (h : w.cell? a = some v) : a.block < w.heap.size := World.block_lt_of_cell? w a h
theorem add_block (a : Addr) (j : Nat) : (a.add j).block = a.block := by unfold Addr.add; split <;> rfl
theorem add_lit (b o j : Nat) : (⟨b, o, none⟩ : Addr).add j = ⟨b, o + j, none⟩ := by unfold Addr.add; split <;> simp_all
/-! ### a slice of one-cell elements that is read; its block lies below B -/
def RS (w : World) (B : Nat) (v : Value) (vs : List Value) : Prop :=
 ∃ A c, v = .slice A vs.length c ∧ vs.length ≤ c ∧ ∀ j u, vs[j]? = some u → ∃ ad, A = some ad ∧ ad.block < B ∧ w.cell? (ad.add j) = some u
theorem RS.mono {w : World} {B B' : Nat} {v : Value} {vs : List Value} (h : RS w B v vs) (hB : B ≤ B') : RS w B' v vs := by
 obtain ⟨A, c, rfl, hc, hr⟩ := h
 exact ⟨A, c, rfl, hc, fun j u hu => by obtain ⟨ad, e, hb, hcell⟩ := hr j u hu; exact ⟨ad, e, by omega, hcell⟩⟩
theorem RS.fr {w w' : World} {M : Nat → Prop} {B : Nat} {v : Value} {vs : List Value} (h : RS w B v vs) (hf : Fr M w w') (hM : ∀ b, b < B → ¬ M b) : RS w' B v vs := by
 obtain ⟨A, c, rfl, hc, hr⟩ := h
 refine ⟨A, c, rfl, hc, fun j u hu => ?_⟩
 obtain ⟨ad, e, hb, hcell⟩ := hr j u hu
 refine ⟨ad, e, hb, ?_⟩
 rw [hf.cell (KG hcell) (by rw [add_block]; exact hM _ hb)]
 exact hcell
theorem RS.nil (w : World) (B : Nat) : RS w B (.slice none 0 0) [] := ⟨none, 0, rfl, Nat.le_refl _, fun j u hu => by simp at hu⟩
theorem RS.at {w : World} {B : Nat} {A : Option Addr} {n c : Nat} {vs : List Value} (h : RS w B (.slice A n c) vs) {j : Nat} (hj : j < vs.length) : ∃ ad, A = some ad ∧ ad.block < B ∧ w.cell? (ad.add j) = some vs[j] := by
 obtain ⟨A', c', e, hc, hr⟩ := h
 cases e
 exact hr j _ (List.getElem?_eq_getElem hj)
theorem RS.len {w : World} {B : Nat} {A : Option Addr} {n c : Nat} {vs : List Value} (h : RS w B (.slice A n c) vs) : n = vs.length ∧ vs.length ≤ c := by
 obtain ⟨A', c', e, hc, hr⟩ := h
 cases e
 exact ⟨rfl, hc⟩

/-! ### bytes -/
def U8 (b : UInt8) : Value := .int .u8 (b.toNat : Int)
def BS (w : World) (B : Nat) (v : Value) (xs : List UInt8) : Prop := RS w B v (xs.map U8)
theorem BS.fr {w w' : World} {M : Nat → Prop} {B : Nat} {v : Value} {vs : List UInt8} (h : BS w B v vs) (hf : Fr M w w') (hM : ∀ b, b < B → ¬ M b) : BS w' B v vs := RS.fr h hf hM
theorem BS.mono {w : World} {B B' : Nat} {v : Value} {vs : List UInt8} (h : BS w B v vs) (hB : B ≤ B') : BS w B' v vs := RS.mono h hB
theorem BS.open {w : World} {B : Nat} {v : Value} {xs : List UInt8} (h : BS w B v xs) : ∃ A c, v = .slice A xs.length c ∧ xs.length ≤ c ∧ ∀ j (hj : j < xs.length), ∃ ad, A = some ad ∧ ad.block < B ∧ w.cell? (ad.add j) = some (U8 xs[j]) := by
 obtain ⟨A, c, e, hc, hr⟩ := h
 simp only [List.length_map] at e hc
 refine ⟨A, c, e, hc, fun j hj => hr j _ ?_⟩
 rw [List.getElem?_map, List.getElem?_eq_getElem hj]
 rfl

/-! ### rows of bytes -/
def MS (w : World) (B : Nat) (v : Value) (m : List (List UInt8)) : Prop :=
 ∃ vs : List Value, RS w B v vs ∧ vs.length = m.length ∧ ∀ (j : Nat) (u : Value) (x : List UInt8), vs[j]? = some u → m[j]? = some x → BS w B u x
theorem MS.fr {w w' : World} {M : Nat → Prop} {B : Nat} {v : Value} {m : List (List UInt8)} (h : MS w B v m) (hf : Fr M w w') (hM : ∀ b, b < B → ¬ M b) : MS w' B v m := by
 obtain ⟨vs, h1, h2, h3⟩ := h
 exact ⟨vs, h1.fr hf hM, h2, fun j u x hu hx => (h3 j u x hu hx).fr hf hM⟩
theorem MS.mono {w : World} {B B' : Nat} {v : Value} {m : List (List UInt8)} (h : MS w B v m) (hB : B ≤ B') : MS w B' v m := by
 obtain ⟨vs, h1, h2, h3⟩ := h
 exact ⟨vs, h1.mono hB, h2, fun j u x hu hx => (h3 j u x hu hx).mono hB⟩
theorem MS.open {w : World} {B : Nat} {v : Value} {m : List (List UInt8)} (h : MS w B v m) : ∃ A c, v = .slice A m.length c ∧ m.length ≤ c ∧
  ∀ j (hj : j < m.length), ∃ ad u, A = some ad ∧ ad.block < B ∧ w.cell? (ad.add j) = some u ∧ BS w B u m[j] := by
 obtain ⟨vs, ⟨A, c, e, hc, hr⟩, h2, h3⟩ := h
 rw [h2] at e hc
 refine ⟨A, c, e, hc, fun j hj => ?_⟩
 have hv : vs[j]? = some vs[j] := List.getElem?_eq_getElem (by omega)
 obtain ⟨ad, e1, hb, hcell⟩ := hr j _ hv
 exact ⟨ad, _, e1, hb, hcell, h3 j _ _ hv (List.getElem?_eq_getElem hj)⟩

/-! ### new blocks, stores -/
theorem new {w : World} {cs : Array Value} {t : TypeId} {K : Nat → World → Prop} {u : A7 K}
  (h : ∀ b w', b = w.heap.size → w'.heap.size = b + 1 → w'.heap[b]? = some (.cells cs t (0, 0)) → Fr No w w' → K b w') : New w (.cells cs t) K u :=
 h _ _ rfl (by simp) (heap_alloc_new w _) (Fr.alloc w _)
theorem stn1 {w : World} {b o : Nat} {v : Value} {cur : Array Value} {e : TypeId} {fr : Nat × Nat} {K : World → Prop} {t : A7 K} (hb : w.heap[b]? = some (.cells cur e fr)) (ho : o < cur.size)
  (hf : ¬ (fr.1 ≤ o ∧ o < fr.2)) (h1 : v.oneCell' = true)
  (k : ∀ w', w'.heap[b]? = some (.cells (cur.setIfInBounds o v) e fr) → Fr (· = b) w w' → w'.heap.size = w.heap.size → K w') : Stn w ⟨b, o, none⟩ [v] K t := by
 refine ⟨w.setCell ⟨b, o, none⟩ v, fun P => ?_, k _ ?_ ?_ ?_⟩
 ·have hc : w.cell? ⟨b, o, none⟩ = some cur[o] := by simp [World.cell?, hb, ho]
  have hz : w.frozen? ⟨b, o, none⟩ = false := by
   simp only [World.frozen?, hb]
   rw [Bool.and_eq_false_iff]
   by_cases h : fr.1 ≤ o
   ·right; simp; omega
   ·left; simp; omega
  have ha : (⟨b, o, none⟩ : Addr).add 0 = ⟨b, o, none⟩ := by simp [Addr.add]
  simp [storeCells, run_store P w _ v .plain h1, ha, hc, hz]
 ·simp [World.setCell, Array.getElem?_modify, hb]
 ·exact ⟨rfl, rfl, rfl, by simp [World.setCell], fun c _ hn => Below.heap_setCell w _ _ c hn⟩
 ·simp [World.setCell]
structure El (P : Program) (t e : TypeId) (s bytes : Nat) (z : Value) : Prop where
 sl : P.underlying t = some (.slice e)
 info : ∃ i, P.info? e = some i ∧ i.zero = some z ∧ i.size = s ∧ i.bytes = bytes
 zc : z.cells.size = s
 pos : 0 < s
def Ow (w : World) (e : TypeId) (s : Nat) (v : Value) (n : Nat) (cs : List Value) : Prop :=
 cs.length = n * s ∧ ((v = .slice none 0 0 ∧ n = 0) ∨ ∃ g cap cur, v = .slice (some ⟨g, 0, none⟩) n cap ∧ w.heap[g]? = some (.cells cur e (0, 0)) ∧ n ≤ cap ∧ cap ≤ 9223372036854775807 ∧ cap * s ≤ cur.size ∧ cur.toList.take (n * s) = cs)
theorem Ow.of_row {w : World} {base : Nat} {e : TypeId} {s n : Nat} {v : Value} {cs : List Value} (h : w.ownsRow base e s v n cs) : Ow w e s v n cs := by
 refine ⟨h.1, ?_⟩
 rcases h.2 with hn | ⟨g, cap, cur, rfl, hb, hg, h1, h2, h3, h4⟩
 ·exact .inl hn
 ·exact .inr ⟨g, cap, cur, rfl, hg, h1, by simpa [maxLen] using h2, Nat.le_of_eq h3.symm, h4⟩
theorem Ow.fr {w w' : World} {M : Nat → Prop} {e : TypeId} {s n : Nat} {v : Value} {cs : List Value} (h : Ow w e s v n cs) (hf : Fr M w w') (hM : ∀ b, v.ownBlock = some b → ¬ M b) : Ow w' e s v n cs := by
 refine ⟨h.1, ?_⟩
 rcases h.2 with hn | ⟨g, cap, cur, rfl, hg, rest⟩
 ·exact .inl hn
 ·refine .inr ⟨g, cap, cur, rfl, ?_, rest⟩
  rw [hf.same g (Array.getElem?_eq_some_iff.1 hg).1 (hM g rfl)]
  exact hg
theorem Ow.no {w w' : World} {e : TypeId} {s n : Nat} {v : Value} {cs : List Value} (h : Ow w e s v n cs) (hf : Fr No w w') : Ow w' e s v n cs := h.fr hf fun _ _ h => h
theorem Ow.nil (w : World) (e : TypeId) (s : Nat) : Ow w e s (.slice none 0 0) 0 [] := ⟨by simp, .inl ⟨rfl, rfl⟩⟩
theorem Ow.form {w : World} {e : TypeId} {s n : Nat} {v : Value} {cs : List Value} (h : Ow w e s v n cs) : (v = .slice none 0 0 ∧ n = 0 ∧ cs = []) ∨
  ∃ g cap cur, v = .slice (some ⟨g, 0, none⟩) n cap ∧ w.heap[g]? = some (.cells cur e (0, 0)) ∧ n ≤ cap ∧ cap * s ≤ cur.size ∧ cs.length = n * s ∧ cur.toList.take (n * s) = cs := by
 rcases h.2 with ⟨rfl, rfl⟩ | ⟨g, cap, cur, rfl, hg, h1, h2, h3, h4⟩
 ·refine .inl ⟨rfl, rfl, ?_⟩
  have := h.1
  simpa using this
 ·exact .inr ⟨g, cap, cur, rfl, hg, h1, h3, h.1, h4⟩
theorem Ow.lt {w : World} {e : TypeId} {s n : Nat} {v : Value} {cs : List Value} (h : Ow w e s v n cs) {b : Nat} (hb : v.ownBlock = some b) : b < w.heap.size := by
 rcases h.form with ⟨rfl, _⟩ | ⟨g, cap, cur, rfl, hg, _⟩
 ·simp [Value.ownBlock] at hb
 ·simp only [Value.ownBlock, Option.some.injEq] at hb
  subst hb
  exact (Array.getElem?_eq_some_iff.1 hg).1
theorem Ow.cells {w : World} {e : TypeId} {s n : Nat} {v : Value} {cs : List Value} (h : Ow w e s v n cs) {g : Nat} (hg : v.ownBlock = some g) : ∀ j u, cs[j]? = some u → w.cell? ((⟨g, 0, none⟩ : Addr).add j) = some u := by
 intro j u hu
 rcases h.form with ⟨rfl, _⟩ | ⟨g', cap, cur, rfl, hg', _, _, _, ht⟩
 ·simp [Value.ownBlock] at hg
 ·simp only [Value.ownBlock, Option.some.injEq] at hg
  subst hg
  rw [add_lit]
  simp only [World.cell?, hg', Nat.zero_add]
  rw [← ht, List.getElem?_take] at hu
  split at hu
  ·simpa using hu
  ·cases hu
theorem Ow.trunc {w : World} {e : TypeId} {s n g cap : Nat} {cs : List Value} (h : Ow w e s (.slice (some ⟨g, 0, none⟩) n cap) n cs) {m c : Nat} (hm : m ≤ n) (hc : m ≤ c) (hcc : c ≤ cap) : Ow w e s (.slice (some ⟨g, 0, none⟩) m c) m (cs.take (m * s)) := by
 rcases h.2 with ⟨e1, _⟩ | ⟨g', cap', cur, e1, hg, h1, h2, h3, h4⟩
 ·cases e1
 ·cases e1
  have hle : m * s ≤ n * s := Nat.mul_le_mul_right _ hm
  have hle2 : c * s ≤ cap * s := Nat.mul_le_mul_right _ hcc
  refine ⟨by rw [List.length_take, h.1]; omega, .inr ⟨g, c, cur, rfl, hg, hc, by omega, by omega, ?_⟩⟩
  rw [← h4, List.take_take]
  congr 1
  omega
theorem Ow.rs {w : World} {e : TypeId} {v : Value} {cs : List Value} {B : Nat} (h : Ow w e 1 v cs.length cs) (hB : ∀ b, v.ownBlock = some b → b < B) : RS w B v cs := by
 rcases h.form with ⟨rfl, hn, rfl⟩ | ⟨g, cap, cur, rfl, hg, hc, hs, hl, ht⟩
 ·exact RS.nil w B
 ·refine ⟨some ⟨g, 0, none⟩, cap, rfl, hc, fun j u hu => ⟨_, rfl, hB g rfl, ?_⟩⟩
  exact Ow.cells h (g := g) rfl j u hu
theorem Ow.bs {w : World} {e : TypeId} {v : Value} {xs : List UInt8} {B : Nat} (h : Ow w e 1 v xs.length (xs.map U8)) (hB : ∀ b, v.ownBlock = some b → b < B) : BS w B v xs := by
 refine Ow.rs (e := e) ?_ hB
 simpa using h

def Src (w : World) (v : Value) (m : Nat) (xs : List Value) : Prop :=
 ∃ A c, v = .slice A m c ∧ ∀ j u, xs[j]? = some u → ∃ ad, A = some ad ∧ w.cell? (ad.add j) = some u
theorem RS.src {w : World} {B : Nat} {v : Value} {vs : List Value} (h : RS w B v vs) : Src w v vs.length vs := by
 obtain ⟨A, c, e, hc, hr⟩ := h
 exact ⟨A, c, e, fun j u hu => by obtain ⟨ad, e, _, hcell⟩ := hr j u hu; exact ⟨ad, e, hcell⟩⟩
theorem BS.src {w : World} {B : Nat} {v : Value} {xs : List UInt8} (h : BS w B v xs) : Src w v xs.length (xs.map U8) := by
 have := RS.src h
 simpa using this

theorem Ow.grown {w : World} {e : TypeId} {s n m old : Nat} {cs xs zs : List Value} (hl : cs.length = n * s) (hx : xs.length = m * s) (hm : n + m ≤ 9223372036854775807) (hz : zs.length = (grownCap w (n + m) old e - (n + m)) * s) :
  Ow (w.drew.alloc (.cells (cs ++ xs ++ zs).toArray e)) e s (.slice (some ⟨w.heap.size, 0, none⟩) (n + m) (grownCap w (n + m) old e)) (n + m) (cs ++ xs) := by
 have hge := grownCap_ge w (n + m) old e
 have hcm : grownCap w (n + m) old e ≤ maxLen := grownCap_le_maxLen w (n + m) old e (by simpa [maxLen] using hm)
 have hlen : (cs ++ xs).length = (n + m) * s := by rw [List.length_append, hl, hx, Nat.add_mul]
 refine ⟨hlen, .inr ⟨w.heap.size, _, _, rfl, heap_alloc_new w.drew _, hge, by simpa [maxLen] using hcm, ?_, ?_⟩⟩
 ·simp only [List.size_toArray, List.length_append] at hlen ⊢
  rw [hlen, hz, ← Nat.add_mul]
  exact Nat.mul_le_mul_right _ (by omega)
 ·rw [← hlen]
  exact List.take_left
theorem Fr.grown (w : World) (o : Obj) (M : Nat → Prop) : Fr M w (w.drew.alloc o) := ((Fr.refl M w).drew).then (Fr.alloc w.drew o)
theorem Ow.filled {w : World} {e : TypeId} {s n m g cap : Nat} {cs xs : List Value} {cur : Array Value} (hl : cs.length = n * s) (hx : xs.length = m * s) (hg : w.heap[g]? = some (.cells cur e (0, 0))) (hc : cap ≤ 9223372036854775807) (hs : cap * s ≤ cur.size) (ht : cur.toList.take (n * s) = cs) (hr : n + m ≤ cap) :
  Ow (w.setRow g (cur.toList.take (n * s) ++ xs ++ cur.toList.drop (n * s + xs.length)).toArray) e s (.slice (some ⟨g, 0, none⟩) (n + m) cap) (n + m) (cs ++ xs) := by
 have hlen : (cs ++ xs).length = (n + m) * s := by rw [List.length_append, hl, hx, Nat.add_mul]
 have h1 : n * s + m * s ≤ cap * s := by rw [← Nat.add_mul]; exact Nat.mul_le_mul_right _ hr
 refine ⟨hlen, .inr ⟨g, cap, _, rfl, setRow_heap w g cur _ e _ hg, hr, hc, ?_, ?_⟩⟩
 ·simp only [List.size_toArray, List.length_append, List.length_take, List.length_drop, Array.length_toList]
  omega
 ·rw [ht, ← hlen]
  exact List.take_left
theorem Fr.setRow (w : World) (g : Nat) (cs : Array Value) : Fr (fun b => some b = some g) w (w.setRow g cs) := Fr.of_grown (row := some g) ⟨rfl, rfl, rfl, by simp, fun k _ hk => setRow_other w g k _ (fun e => hk (by rw [e]))⟩
theorem app {P : Program} {w : World} {t ty e : TypeId} {s bytes : Nat} {z : Value} (hel : El P t e s bytes z) {v x : Value} {n m : Nat} {cs xs : List Value} (hv : Ow w e s v n cs) (hx : Src w x m xs)
  (hl : xs.length = m * s) (h1 : ∀ u ∈ xs, u.oneCell' = true) (hb : (n + m) * bytes ≤ 140737488355328) (hm : n + m ≤ 9223372036854775807) {K : Value → World → Prop} {tg : A7 K}
  (k : ∀ v' w', Ow w' e s v' (n + m) (cs ++ xs) → Fr (fun b => v.ownBlock = some b) w w' → (v'.ownBlock = v.ownBlock ∨ ∃ b, v'.ownBlock = some b ∧ w.heap.size ≤ b ∧ b < w'.heap.size) → K v' w') :
  Run P (Builtin.append_ #[t, t] ty #[v, x]) w K tg := by
 obtain ⟨i, hi, hz, hs, hby⟩ := hel.info
 obtain ⟨A, c, rfl, hr⟩ := hx
 have hpos := hel.pos
 have hzc := hel.zc
 have zl : ∀ q, (Builtin.zeroCells z.cells q).toList.length = q * s := fun q => by rw [Array.length_toList, size_zeroCells, hzc]
 cases A with
 | none =>
  have h0 : xs = [] := by
   cases xs with
   | nil => rfl
   | cons u xs => obtain ⟨_, e, _⟩ := hr 0 u rfl; cases e
  subst h0
  have hm0 : m = 0 := by
   simp only [List.length_nil] at hl
   rcases Nat.mul_eq_zero.1 hl.symm with h | h
   ·exact h
   ·omega
  subst hm0
  have hrun : (Builtin.append_ #[t, t] ty #[v, .slice none 0 c]).run P w = .ok v w := by
   rcases Ow.form hv with ⟨rfl, rfl, rfl⟩ | ⟨g, cap, cur, rfl, hg, hc, _⟩
   ·simp [Builtin.append_, run_underlying hel.sl, sizeOf, typeInfo, hi, Builtin.lenOf, Builtin.firstCells]
   ·have : n + 0 ≤ cap := by omega
    simp [Builtin.append_, run_underlying hel.sl, sizeOf, typeInfo, hi, Builtin.lenOf, Builtin.firstCells, hc, storeCells]
  exact ⟨v, w, hrun, k v w (by simpa using hv) (Fr.refl _ _) (.inl rfl)⟩
 | some ad =>
  subst hs
  subst hby
  have hnews : ∀ j u, xs[j]? = some u → w.cell? (ad.add j) = some u := fun j u hu => by
   obtain ⟨ad', e, hc⟩ := hr j u hu
   cases e
   exact hc
  have hlv := hv.1
  rcases hv.2 with ⟨rfl, rfl⟩ | ⟨g, cap, cur, rfl, hg, hnc, hcm, hcs, htake⟩
  ·have hcs : cs = [] := List.eq_nil_of_length_eq_zero (by simpa using hlv)
   subst hcs
   by_cases hm0 : m = 0
   ·subst hm0
    have hn : xs = [] := List.eq_nil_of_length_eq_zero (by simpa using hl)
    subst hn
    refine ⟨.slice none 0 0, w, ?_, k _ _ (by simpa using Ow.nil w e i.size) (Fr.refl _ _) (.inl rfl)⟩
    simp [Builtin.append_, run_underlying hel.sl, sizeOf, typeInfo, hi, Builtin.lenOf, Builtin.firstCells, loadCells, loadCellsFrom]
   ·have hr := run_append_nil (P := P) w t ty e i z hel.sl hi hz ad m c xs hl hnews (by omega) (by omega) (by simp only [Nat.zero_add] at hb; omega)
    have hgr := Ow.grown (w := w) (e := e) (s := i.size) (n := 0) (m := m) (old := 0) (cs := []) (xs := xs) (zs := (Builtin.zeroCells z.cells (grownCap w (0 + m) 0 e - (0 + m))).toList) (by simp) hl hm (zl _)
    simp only [Nat.zero_add, List.nil_append] at hgr
    have ea : (xs ++ (Builtin.zeroCells z.cells (grownCap w m 0 e - m)).toList).toArray = xs.toArray ++ Builtin.zeroCells z.cells (grownCap w m 0 e - m) := by apply Array.ext'; simp
    rw [ea] at hgr
    exact ⟨_, _, hr, k _ _ (by simpa using hgr) (Fr.grown _ _ _) (.inr ⟨_, rfl, Nat.le_refl _, by simp⟩)⟩
  ·by_cases hroom : n + m ≤ cap
   ·have hfit : n * i.size + xs.length ≤ cur.size := by
     rw [hl, ← Nat.add_mul]
     exact Nat.le_trans (Nat.mul_le_mul_right _ hroom) hcs
    have hr := run_append_room (P := P) w t ty e i hel.sl hi g n cap cur hg ad m c xs hl hnews h1 hroom hfit
    exact ⟨_, _, hr, k _ _ (Ow.filled hlv hl hg hcm hcs htake hroom) ((Fr.setRow w g _).mono fun b _ h => h.symm) (.inl rfl)⟩
   ·have holds : ∀ j u, cs[j]? = some u → w.cell? ((⟨g, 0, none⟩ : Addr).add j) = some u := hv.cells (g := g) rfl
    have hr := run_append_grow (P := P) w t ty e i z hel.sl hi hz ⟨g, 0, none⟩ n cap cs hlv holds ad m c xs hl hnews (by omega) (by omega) (growslice_fits (by omega) hb)
    have hgr := Ow.grown (w := w) (e := e) (s := i.size) (n := n) (m := m) (old := cap) (cs := cs) (xs := xs) (zs := (Builtin.zeroCells z.cells (grownCap w (n + m) cap e - (n + m))).toList) hlv hl hm (zl _)
    have ea : (cs ++ xs ++ (Builtin.zeroCells z.cells (grownCap w (n + m) cap e - (n + m))).toList).toArray = cs.toArray ++ xs.toArray ++ Builtin.zeroCells z.cells (grownCap w (n + m) cap e - (n + m)) := by apply Array.ext'; simp
    rw [ea] at hgr
    exact ⟨_, _, hr, k _ _ hgr (Fr.grown _ _ _) (.inr ⟨_, rfl, Nat.le_refl _, by simp⟩)⟩
def Ef (s : ByteArray) : List Value := s.data.toList.map fun b => Value.int .u8 b.toNat
theorem MQ (s : ByteArray) : (Ef s).length = s.size := by
 rw [Ef, List.length_map, Array.length_toList]
 rfl
theorem AeL {P : Program} {w : World} {t tu ty e : TypeId} {z : Value} (hel : El P t e 1 1 z) (hz0 : z = .int .u8 0) (hu : P.underlying tu = some .string) {v : Value} {n : Nat} {cs : List Value} (hv : Ow w e 1 v n cs) (s : ByteArray) (hb : n + s.size ≤ 140737488355328)
  {K : Value → World → Prop} {tg : A7 K}
  (k : ∀ v' w', Ow w' e 1 v' (n + s.size) (cs ++ Ef s) → Fr (fun b => v.ownBlock = some b) w w' → (v'.ownBlock = v.ownBlock ∨ ∃ b, v'.ownBlock = some b ∧ w.heap.size ≤ b ∧ b < w'.heap.size) → K v' w') :
  Run P (Builtin.append_ #[t, tu] ty #[v, .string s]) w K tg := by
 obtain ⟨i, hi, hz, hs, hby⟩ := hel.info
 subst hz0
 have zl : ∀ q, (Builtin.zeroCells (Value.int .u8 0).cells q).toList.length = q * 1 := fun q => by rw [Array.length_toList, size_zeroCells, hel.zc]
 have hl : (Ef s).length = s.size * 1 := by rw [MQ, Nat.mul_one]
 have hlv := hv.1
 rcases hv.2 with ⟨rfl, rfl⟩ | ⟨g, cap, cur, rfl, hg, hnc, hcm, hcs, htake⟩
 ·have hcs : cs = [] := List.eq_nil_of_length_eq_zero (by simpa using hlv)
  subst hcs
  by_cases hm0 : s.size = 0
  ·have hn : Ef s = [] := List.eq_nil_of_length_eq_zero (by rw [MQ]; exact hm0)
   have hf := Lib.run_firstCells_string (P := P) w 1 s
   refine ⟨.slice none 0 0, w, ?_, k _ _ (by rw [hm0, hn]; simpa using Ow.nil w e 1) (Fr.refl _ _) (.inl rfl)⟩
   rw [hm0] at hf
   have hn' : Lib.strCells s = [] := hn
   rw [hn'] at hf
   simp [Builtin.append_, run_underlying hel.sl, run_underlying hu, sizeOf, typeInfo, hi, hs, Builtin.lenOf, hm0, hf]
  ·have hr := run_append_nil_string (P := P) w t tu ty e i (.int .u8 0) hel.sl hu hi hz s (by omega) (by omega) (by rw [hby]; omega)
   have hgr := Ow.grown (w := w) (e := e) (s := 1) (n := 0) (m := s.size) (old := 0) (cs := []) (xs := Ef s) (zs := (Builtin.zeroCells (Value.int .u8 0).cells (grownCap w (0 + s.size) 0 e - (0 + s.size))).toList) (by simp) hl (by omega) (zl _)
   simp only [Nat.zero_add, List.nil_append] at hgr
   have ea : (Ef s ++ (Builtin.zeroCells (Value.int .u8 0).cells (grownCap w s.size 0 e - s.size)).toList).toArray = s.data.map (fun b => Value.int .u8 b.toNat) ++ Builtin.zeroCells (Value.int .u8 0).cells (grownCap w s.size 0 e - s.size) := by
    apply Array.ext'; simp [Ef]
   rw [ea] at hgr
   exact ⟨_, _, hr, k _ _ (by simpa using hgr) (Fr.grown _ _ _) (.inr ⟨_, rfl, Nat.le_refl _, by simp⟩)⟩
 ·by_cases hroom : n + s.size ≤ cap
  ·have hr := Lib.run_append_room_string (P := P) w t tu ty e i hel.sl hu hi hs g n cap cur hg s hroom (by omega)
   have hfl := Ow.filled (w := w) (e := e) (s := 1) (n := n) (m := s.size) (cs := cs) (xs := Ef s) hlv hl hg hcm hcs htake hroom
   rw [hl, Nat.mul_one, Nat.mul_one] at hfl
   exact ⟨_, _, hr, k _ _ hfl ((Fr.setRow w g _).mono fun b _ h => h.symm) (.inl rfl)⟩
  ·have holds : ∀ j u, cs[j]? = some u → w.cell? ((⟨g, 0, none⟩ : Addr).add j) = some u := hv.cells (g := g) rfl
   have hr := Lib.run_append_grow_string (P := P) w t tu ty e i (.int .u8 0) hel.sl hu hi hz ⟨g, 0, none⟩ n cap cs (by rw [hs]; exact hlv) holds s (by omega) (by omega) (by rw [hby]; exact growslice_fits (by omega) (by omega))
   have hgr := Ow.grown (w := w) (e := e) (s := 1) (n := n) (m := s.size) (old := cap) (cs := cs) (xs := Ef s) (zs := (Builtin.zeroCells (Value.int .u8 0).cells (grownCap w (n + s.size) cap e - (n + s.size))).toList) hlv hl (by omega) (zl _)
   have ea : (cs ++ Ef s ++ (Builtin.zeroCells (Value.int .u8 0).cells (grownCap w (n + s.size) cap e - (n + s.size))).toList).toArray = cs.toArray ++ (Lib.strCells s).toArray ++ Builtin.zeroCells (Value.int .u8 0).cells (grownCap w (n + s.size) cap e - (n + s.size)) := by
    apply Array.ext'; simp [Ef, Lib.strCells]
   rw [ea] at hgr
   exact ⟨_, _, hr, k _ _ hgr (Fr.grown _ _ _) (.inr ⟨_, rfl, Nat.le_refl _, by simp⟩)⟩
theorem AbM {P : Program} {w : World} {t ti ty e : TypeId} {s bytes : Nat} {z : Value} (hel : El P t e s bytes z) (hu : P.underlying ti = some (.int .i64)) {m : Nat} (h0 : 0 < m) (hm : m ≤ 9223372036854775807) (hb : m * bytes ≤ 140737488355328)
  {K : Value → World → Prop} {tg : A7 K} (k : ∀ v' w' cs, Ow w' e s v' m cs → Fr No w w' → (∃ b, v'.ownBlock = some b ∧ w.heap.size ≤ b ∧ b < w'.heap.size) → K v' w') :
  Run P (Builtin.append_ #[t, ti] ty #[.slice none 0 0, .int .i64 m]) w K tg := by
 obtain ⟨i, hi, hz, hs, hby⟩ := hel.info
 subst hs
 subst hby
 have zl : ∀ q, (Builtin.zeroCells z.cells q).toList.length = q * i.size := fun q => by rw [Array.length_toList, size_zeroCells, hel.zc]
 have hne : m ≠ 0 := by omega
 have hpos := hel.pos
 have hms : ¬ (m * i.size = 0) := by
  intro h
  rcases Nat.mul_eq_zero.1 h with h | h <;> omega
 have hgr := Ow.grown (w := w) (e := e) (s := i.size) (n := 0) (m := m) (old := 0) (cs := []) (xs := (Builtin.zeroCells z.cells m).toList) (zs := (Builtin.zeroCells z.cells (grownCap w (0 + m) 0 e - (0 + m))).toList) (by simp) (zl _) (by omega) (zl _)
 simp only [Nat.zero_add, List.nil_append] at hgr
 have ea : ((Builtin.zeroCells z.cells m).toList ++ (Builtin.zeroCells z.cells (grownCap w m 0 e - m)).toList).toArray = Builtin.zeroCells z.cells m ++ Builtin.zeroCells z.cells (grownCap w m 0 e - m) := by apply Array.ext'; simp
 rw [ea] at hgr
 have hw : IntKind.i64.wrap (m : Int) = m := wrap_i64 (by omega)
 have h48 : ¬ (281474976710656 < (m : Int) * (i.bytes : Int)) := by
  have := Int.ofNat_le.2 hb
  rw [Int.natCast_mul] at this
  omega
 have h48' : ¬ (281474976710656 < Builtin.nextslicecap m 0 * i.bytes) := by rw [nextslicecap_zero h0]; omega
 have h63 : ¬ (9223372036854775807 < (m : Int)) := by omega
 refine ⟨_, _, ?_, k _ _ _ hgr ((Fr.grown w _ No)) ⟨_, rfl, Nat.le_refl _, by simp⟩⟩
 have hneg : ¬ ((m : Int) < 0) := by omega
 have has : ∀ w : World, (asInt (.int .i64 (m : Int)) : Sem _).run P w = .ok (m : Int) w := fun _ => rfl
 simp [Builtin.append_, run_underlying hel.sl, run_underlying hu, sizeOf, typeInfo, zeroValue, hi, hz, has, hw, h48, h48', h63, hne, hms, hneg, Question.forced, run_firstCells_none, newRow, grownCap]

theorem Ow.lit {w : World} {b n : Nat} {cs : Array Value} {e : TypeId} {s : Nat} (hb : w.heap[b]? = some (.cells cs e (0, 0))) (hl : cs.size = n * s) (hn : n ≤ 9223372036854775807) :
  Ow w e s (.slice (some ⟨b, 0, none⟩) n n) n cs.toList := by
 refine ⟨by simpa using hl, .inr ⟨b, n, cs, rfl, hb, Nat.le_refl _, hn, Nat.le_of_eq hl.symm, ?_⟩⟩
 rw [← hl, ← Array.length_toList, List.take_length]
theorem AdK {w : World} {b n : Nat} {cs : Array Value} {e : TypeId} (hb : w.heap[b]? = some (.cells cs e (0, 0))) (c : Nat) : Src w (.slice (some ⟨b, 0, none⟩) n c) n cs.toList := by
 refine ⟨_, c, rfl, fun j u hu => ⟨_, rfl, ?_⟩⟩
 rw [add_lit]
 simp only [World.cell?, hb]
 simpa using hu

theorem mk {P : Program} {w : World} {t e : TypeId} {s bytes : Nat} {z : Value} (hel : El P t e s bytes z) {k k' : IntKind} {n : Int} (h0 : 0 ≤ n) (hb : (bytes : Int) * n ≤ 281474976710656) (hn : n ≤ 9223372036854775807)
  {en : Env} {dst : Option Nat} {x y : Operand} {ty : TypeId} {pos : String} {af : Array Edge} {gu} (hx : rho en x = .int k n) (hy : rho en y = .int k' n) {K : Value → World → Prop} {tg : A7 K}
  (kk : ∀ b w', b = w.heap.size → w'.heap.size = b + 1 → w'.heap[b]? = some (.cells (madeCells z.cells (n.toNat * s)) e (0, 0)) → Fr No w w' → K (.slice (some ⟨b, 0, none⟩) n.toNat n.toNat) w') :
  BQ P (execOp (rho en) ⟨dst, .makeSlice t x y, ty, pos, af, gu⟩) w K tg := by
 obtain ⟨i, hi, hz, hs, hby⟩ := hel.info
 subst hs
 subst hby
 refine .inl ⟨_, _, ?_, kk w.heap.size (w.alloc (.cells (madeCells z.cells (n.toNat * i.size)) e)) rfl (by simp) (heap_alloc_new w _) (Fr.alloc w _)⟩
 simp only [execOp, hx, hy, Sem.run_bind, run_make w t e i z hel.sl hi hz k k' n n h0 (Int.le_refl _) hb hn, Result.andThen_ok, Sem.run_pure]
theorem Ow.set {w : World} {e : TypeId} {b cap n : Nat} {cs : List Value} (h : Ow w e 1 (.slice (some ⟨b, 0, none⟩) n cap) n cs) {j : Nat} (hj : j < n) {v : Value} (h1 : v.oneCell' = true) {K : World → Prop} {t : A7 K}
  (k : ∀ w', Ow w' e 1 (.slice (some ⟨b, 0, none⟩) n cap) n (cs.set j v) → Fr (· = b) w w' → w'.heap.size = w.heap.size → K w') : Stn w ⟨b, j, none⟩ [v] K t := by
 rcases h.2 with ⟨e1, _⟩ | ⟨g, cap', cur, e1, hg, hc, hm, hs, ht⟩
 ·cases e1
 ·cases e1
  simp only [Nat.mul_one] at hs ht
  refine stn1 hg (by omega) (by simp) h1 fun w' hw hf hsz => k w' ?_ hf hsz
  refine ⟨by simpa using h.1, .inr ⟨b, cap, _, rfl, hw, hc, hm, by simpa using hs, ?_⟩⟩
  simp only [Nat.mul_one, Array.toList_setIfInBounds]
  rw [← ht]
  apply List.ext_getElem?
  intro i
  simp only [List.getElem?_take, List.getElem?_set, List.length_take, Array.length_toList]
  have hmin : min n cur.size = n := by omega
  by_cases h1 : i < n
  ·by_cases h2 : j = i
   ·subst h2
    have : j < cur.size := by omega
    simp [h1, this, hmin]
   ·simp [h1, h2]
  ·by_cases h2 : j = i
   ·subst h2; omega
   ·simp [h1, h2]
theorem Ow.cellAt {w : World} {e : TypeId} {b cap n : Nat} {cs : List Value} (h : Ow w e 1 (.slice (some ⟨b, 0, none⟩) n cap) n cs) {j : Nat} {u : Value} (hu : cs[j]? = some u) : w.cell? ⟨b, j, none⟩ = some u := by
 have := Ow.cells h (g := b) rfl j u hu
 rwa [add_lit, Nat.zero_add] at this
theorem ba_eq (a b : List UInt8) : ((⟨a.toArray⟩ : ByteArray) = ⟨b.toArray⟩) = (a = b) := by
 apply propext
 constructor
 ·intro h
  have := congrArg (fun x : ByteArray => x.data.toList) h
  simpa using this
 ·rintro rfl; rfl
end Go.Sl
end
section
namespace Go.Sl
open Go.Instr Go.ChangeMaps Go.MapKept
open Go.Maps (Keyed)
structure Mp (w : World) (b : Nat) (ks us : List Value) (es : Array MapEntry) (clock : Nat) : Prop where
 at_ : w.heap[b]? = some (.map es clock)
 key : es.toList.map (·.key) = ks
 val : es.toList.map (·.val) = us
 nodup : ks.Nodup
 born : (es.toList.map (·.born)).Nodup
 old : ∀ e ∈ es.toList, e.born < clock
section
variable {P : Program} {w : World} {b : Nat} {ks us : List Value} {es : Array MapEntry} {clock : Nat} {t kt et : TypeId} {k : Value} {kl : Lit}
theorem Mp.keys (h : Mp w b ks us es clock) (hks : ∀ x ∈ ks, ∃ l, keyOf P kt x = some l) : ∀ e ∈ es.toList, ∃ l, keyOf P kt e.key = some l := fun e he =>
 hks _ (by rw [← h.key]; exact List.mem_map.2 ⟨e, he, rfl⟩)
theorem Mp.find_no (h : Mp w b ks us es clock) (K : Keyed P kt) (hkey : keyOf P kt k = some kl) (hks : ∀ x ∈ ks, ∃ l, keyOf P kt x = some l) (hn : k ∉ ks) : (findKey kt k es.toList).run P w = .ok none w := by
 rcases K.find w hkey es.toList (h.keys hks) with ⟨h1, _⟩ | ⟨j, e, h1, h2, h3⟩
 ·exact h1
 ·exact absurd (by rw [← h.key, ← h3]; exact List.mem_map.2 ⟨e, List.mem_of_getElem? h2, rfl⟩) hn
theorem Mp.find_at (h : Mp w b ks us es clock) (K : Keyed P kt) (hkey : keyOf P kt k = some kl) (hks : ∀ x ∈ ks, ∃ l, keyOf P kt x = some l) {j : Nat} {u : Value} (hj : ks[j]? = some k) (hu : us[j]? = some u) : (findKey kt k es.toList).run P w = .ok (some (j, u)) w := by
 rcases K.find w hkey es.toList (h.keys hks) with ⟨_, h1⟩ | ⟨j', e, h1, h2, h3⟩
 ·obtain ⟨e, he, rfl⟩ : ∃ e ∈ es.toList, e.key = k := by
   have := List.mem_of_getElem? hj
   rw [← h.key] at this
   obtain ⟨e, he, hk⟩ := List.mem_map.1 this
   exact ⟨e, he, hk⟩
  exact absurd rfl (h1 e he)
 ·have hk' : ks[j']? = some k := by rw [← h.key, List.getElem?_map, h2]; simp [h3]
  have hj' : j' = j := by
   have hlt := (List.getElem?_eq_some_iff.1 hk').1
   have := (List.getElem?_inj hlt h.nodup).1 (hk'.trans hj.symm)
   exact this
  subst hj'
  have : us[j']? = some e.val := by rw [← h.val, List.getElem?_map, h2]; rfl
  rw [hu] at this
  cases this
  exact h1
theorem Mp.look_no (h : Mp w b ks us es clock) (K : Keyed P kt) (ht : P.underlying t = some (.map kt et)) {z : Value} (hz : (zeroValue et).run P w = .ok z w) (hkey : keyOf P kt k = some kl) (hks : ∀ x ∈ ks, ∃ l, keyOf P kt x = some l) (hn : k ∉ ks) (ok : Bool) :
  (Instr.lookup t (.map (some b)) k ok).run P w = .ok (if ok then .tuple #[z, .bool false] else z) w := by
 simp [Instr.lookup, run_underlying ht, MapKept.run_getObj_map h.at_, K.check w _ hkey, h.find_no K hkey hks hn, hz, Result.andThen]
theorem Mp.look_at (h : Mp w b ks us es clock) (K : Keyed P kt) (ht : P.underlying t = some (.map kt et)) (hkey : keyOf P kt k = some kl) (hks : ∀ x ∈ ks, ∃ l, keyOf P kt x = some l) {j : Nat} {u : Value} (hj : ks[j]? = some k) (hu : us[j]? = some u) (ok : Bool) :
  (Instr.lookup t (.map (some b)) k ok).run P w = .ok (if ok then .tuple #[u, .bool true] else u) w := by
 simp [Instr.lookup, run_underlying ht, MapKept.run_getObj_map h.at_, K.check w _ hkey, h.find_at K hkey hks hj hu, Result.andThen]
theorem Mp.put_no (h : Mp w b ks us es clock) (K : Keyed P kt) (ht : P.underlying t = some (.map kt et)) (hkey : keyOf P kt k = some kl) (hks : ∀ x ∈ ks, ∃ l, keyOf P kt x = some l) (hn : k ∉ ks) (v : Value) :
  ∃ es' c', (Instr.mapUpdate t (.map (some b)) k v).run P w = .ok () (setBlock w b (.map es' c')) ∧ ∀ w', w'.heap[b]? = some (.map es' c') → Mp w' b (ks ++ [k]) (us ++ [v]) es' c' := by
 refine ⟨es.push { key := k, val := v, born := clock }, clock + 1, ?_, fun w' hw => ⟨hw, by simp [h.key], by simp [h.val], ?_, ?_, fun e he => ?_⟩⟩
 ·simp [Instr.mapUpdate, run_underlying ht, MapKept.run_getObj_map h.at_, K.check w false hkey, h.find_no K hkey hks hn, MapKept.run_setObj_map _ h.at_, Result.andThen, setBlock]
 ·rw [List.nodup_append]
  exact ⟨h.nodup, by simp, fun a ha c hc => by
   have : c = k := by simpa using hc
   rw [this]; exact fun e => hn (by rw [← e]; exact ha)⟩
 ·rw [Array.toList_push, List.map_append, List.nodup_append]
  refine ⟨h.born, by simp, fun a ha c hc => ?_⟩
  obtain ⟨e, he, rfl⟩ := List.mem_map.1 ha
  have : c = clock := by simpa using hc
  have := h.old e he
  omega
 ·rw [Array.toList_push, List.mem_append] at he
  rcases he with he | he
  ·have := h.old e he; omega
  ·have : e = { key := k, val := v, born := clock } := by simpa using he
   rw [this]; exact Nat.lt_succ_self _
theorem Mp.put_at (h : Mp w b ks us es clock) (K : Keyed P kt) (ht : P.underlying t = some (.map kt et)) (hkey : keyOf P kt k = some kl) (hks : ∀ x ∈ ks, ∃ l, keyOf P kt x = some l) {j : Nat} {u : Value} (hj : ks[j]? = some k) (hu : us[j]? = some u) (v : Value) :
  ∃ es' c', (Instr.mapUpdate t (.map (some b)) k v).run P w = .ok () (setBlock w b (.map es' c')) ∧ ∀ w', w'.heap[b]? = some (.map es' c') → Mp w' b ks (us.set j v) es' c' := by
 have hlt : j < es.size := by
  have := (List.getElem?_eq_some_iff.1 hj).1
  rw [← h.key] at this
  simpa using this
 have hek : es[j].key = k := by
  have : ks[j]? = some es[j].key := by rw [← h.key, List.getElem?_map, Array.getElem?_toList, Array.getElem?_eq_getElem hlt]; rfl
  rw [hj] at this
  exact (Option.some.inj this).symm
 have hmod : (es.modify j fun e => { e with key := k, val := v }).toList = es.toList.modify j (fun e => { e with key := k, val := v }) := by simp
 refine ⟨es.modify j fun e => { e with key := k, val := v }, clock, ?_, fun w' hw => ⟨hw, ?_, ?_, h.nodup, ?_, fun e he => ?_⟩⟩
 ·simp [Instr.mapUpdate, run_underlying ht, MapKept.run_getObj_map h.at_, K.check w false hkey, h.find_at K hkey hks hj hu, hlt, hek, K.stays w hkey, MapKept.run_setObj_map _ h.at_, Result.andThen, setBlock]
 ·rw [hmod, ← h.key]
  apply List.ext_getElem?
  intro i
  rw [List.getElem?_map, List.getElem?_modify, List.getElem?_map]
  by_cases e : j = i
  ·subst e
   simp [hlt, hek]
  ·simp [e]
 ·rw [hmod, ← h.val]
  apply List.ext_getElem?
  intro i
  rw [List.getElem?_map, List.getElem?_modify, List.getElem?_set]
  by_cases e : j = i
  ·subst e
   simp [hlt]
  ·simp [e]
 ·rw [hmod]
  have : (es.toList.modify j fun e => { e with key := k, val := v }).map (·.born) = es.toList.map (·.born) := by
   apply List.ext_getElem?
   intro i
   rw [List.getElem?_map, List.getElem?_modify, List.getElem?_map]
   by_cases e : j = i
   ·subst e; simp [hlt]
   ·simp [e]
  rw [this]
  exact h.born
 ·rw [hmod] at he
  obtain ⟨i, hi⟩ := List.mem_iff_getElem?.1 he
  rw [List.getElem?_modify] at hi
  cases hq : es.toList[i]? with
  | none => rw [hq] at hi; simp at hi
  | some e0 =>
   rw [hq] at hi
   have := h.old e0 (List.mem_of_getElem? hq)
   have hi' : (if j = i then { e0 with key := k, val := v } else e0) = e := by
    have := Option.some.inj hi
    exact this
   rw [← hi']
   split <;> exact this
theorem Mp.len (h : Mp w b ks us es clock) (ht : P.underlying t = some (.map kt et)) (ty : TypeId) : (Builtin.len_ #[t] ty #[.map (some b)]).run P w = .ok (.int .i64 ks.length) w := by
 have : ks.length = es.size := by rw [← h.key]; simp
 rw [this]
 simp [Builtin.len_, run_underlying ht, MapKept.run_getObj_map h.at_, Result.andThen]
 rfl
theorem JA {α β : Type} (f : α → β) : ∀ (l : List α) (j : Nat), (l.eraseIdx j).map f = (l.map f).eraseIdx j
 | [], j => by simp
 | a :: l, 0 => by simp
 | a :: l, j + 1 => by simp [JA f l j]
theorem Mp.drop_at (h : Mp w b ks us es clock) (K : Keyed P kt) (ht : P.underlying t = some (.map kt et)) (hkey : keyOf P kt k = some kl) (hks : ∀ x ∈ ks, ∃ l, keyOf P kt x = some l) {j : Nat} {u : Value} (hj : ks[j]? = some k) (hu : us[j]? = some u) (t2 ty : TypeId) :
  ∃ es', (Builtin.delete_ #[t, t2] ty #[.map (some b), k]).run P w = .ok (.tuple #[]) (setBlock w b (.map es' clock)) ∧ ∀ w', w'.heap[b]? = some (.map es' clock) → Mp w' b (ks.eraseIdx j) (us.eraseIdx j) es' clock := by
 have hlt : j < es.size := by
  have := (List.getElem?_eq_some_iff.1 hj).1
  rw [← h.key] at this
  simpa using this
 refine ⟨es.eraseIdxIfInBounds j, ?_, fun w' hw => ⟨hw, ?_, ?_, ?_, ?_, fun e he => ?_⟩⟩
 ·simp [Builtin.delete_, run_underlying ht, MapKept.run_getObj_map h.at_, K.check w _ hkey, h.find_at K hkey hks hj hu, MapKept.run_setObj_map _ h.at_, Result.andThen, setBlock]
 all_goals simp only [Array.eraseIdxIfInBounds, hlt, dif_pos, Array.toList_eraseIdx] at *
 ·rw [← h.key, JA]
 ·rw [← h.val, JA]
 ·exact h.nodup.sublist (List.eraseIdx_sublist ..)
 ·rw [JA]
  exact h.born.sublist (List.eraseIdx_sublist ..)
 ·exact h.old e (List.mem_of_mem_eraseIdx he)
end
theorem Mp.made {w' : World} {b : Nat} (h : w'.heap[b]? = some (.map #[] 0)) : Mp w' b [] [] #[] 0 := ⟨h, rfl, rfl, List.nodup_nil, List.nodup_nil, fun e he => by simp at he⟩
end Go.Sl
end
