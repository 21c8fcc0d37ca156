/- Walks: clearColumn. -/
import Derived.Test.YtgpkbldlkadnjaaJ4
section
set_option linter.unusedVariables false
set_option linter.unusedSimpArgs false
set_option maxHeartbeats 3000000
attribute [local irreducible] Go.Sl.Chk Go.Sl.Br Go.Sl.Ld Go.Sl.Ldn Go.Sl.LdB Go.Sl.Stn Go.Sl.New Go.Sl.Run Go.Sl.RunU Go.Sl.RunX Go.Sl.Call Go.Sl.LoopK Go.Sl.RawK Go.Sl.ev Go.Sl.eget
namespace Go.Proofs.Ytgpkbldlkadnjaa
open Go Go.Sl Go.RowKit

def norm (c : Nat) (p : LL × LL) : LL × LL := (p.1.set c ((p.1.getD c []).map (gmul (ginv (entry p.1 c c)))), p.2.set c ((p.2.getD c []).map (gmul (ginv (entry p.1 c c)))))
def elim1 (c k : Nat) (p : LL × LL) : LL × LL :=
  if k ≠ c ∧ entry p.1 k c ≠ 0 then (p.1.set k (xorL (p.1.getD k []) ((p.1.getD c []).map (gmul (entry p.1 k c)))), p.2.set k (xorL (p.2.getD k []) ((p.2.getD c []).map (gmul (entry p.1 k c))))) else p
def elim (c : Nat) (p : LL × LL) : Nat → LL × LL
  | 0 => p
  | k + 1 => elim1 c k (elim c p k)
def clearC (n c : Nat) (p : LL × LL) : LL × LL := elim c (norm c p) n

theorem PM.put {w w' : World} {n : Nat} {rl ro t1 t2 : Value} {vl vo : List Value} {l o : LL} (h : PM w n rl vl l ro vo o) {c : Nat} {x1 x2 : List UInt8} (hx1 : x1.length = n) (hx2 : x2.length = n)
    (hl : Ow w' 29 1 rl n (vl.set c t1)) (ho : Ow w' 29 1 ro n (vo.set c t2)) (hf : Fr (fun b => rl.ownBlock = some b ∨ ro.ownBlock = some b) w w')
    (h1 : Ow w' 5 1 t1 x1.length (x1.map U8)) (h2 : Ow w' 5 1 t2 x2.length (x2.map U8)) (n1 : New' w.heap.size t1) (n2 : New' w.heap.size t2) (n12 : ∀ b, t1.ownBlock = some b → t2.ownBlock ≠ some b) :
    PM w' n rl (vl.set c t1) (l.set c x1) ro (vo.set c t2) (o.set c x2) := by
  have a1 : ∀ b, t1.ownBlock = some b → ¬ Has rl vl b ∧ ¬ Has ro vo b := fun b hb => ⟨fun e => by have := h.left.lt e; have := n1 b hb; omega, fun e => by have := h.out.lt e; have := n1 b hb; omega⟩
  have a2 : ∀ b, t2.ownBlock = some b → ¬ Has rl vl b ∧ ¬ Has ro vo b := fun b hb => ⟨fun e => by have := h.left.lt e; have := n2 b hb; omega, fun e => by have := h.out.lt e; have := n2 b hb; omega⟩
  refine ⟨h.left.put h.dl (by rw [h.ll]; exact hl) hf ?_ h1, h.out.put h.do' (by rw [h.lo]; exact ho) hf ?_ h2, h.dl.put fun b hb => (a1 b hb).1, h.do'.put fun b hb => (a2 b hb).2, ?_, by rw [List.length_set]; exact h.ll, by rw [List.length_set]; exact h.lo, ?_, ?_⟩
  · rintro b (hb | hb) ⟨j, v, hv, hvb⟩
    · exact h.dl.spine j v b hv hvb hb
    · exact h.apart b (.inr ⟨j, v, hv, hvb⟩) (.inl hb)
  · rintro b (hb | hb) ⟨j, v, hv, hvb⟩
    · exact h.apart b (.inl hb) (.inr ⟨j, v, hv, hvb⟩)
    · exact h.do'.spine j v b hv hvb hb
  · intro b hb hb'
    rcases hb.put with e | e <;> rcases hb'.put with e' | e'
    · exact h.apart b e e'
    · exact (a2 b e').1 e
    · exact (a1 b e).2 e'
    · exact n12 b e e'
  · intro x hx
    rcases List.mem_or_eq_of_mem_set hx with e | rfl
    · exact h.wl x e
    · exact hx1
  · intro x hx
    rcases List.mem_or_eq_of_mem_set hx with e | rfl
    · exact h.wo x e
    · exact hx2
theorem PM.turnL {w w' : World} {n : Nat} {rl ro u : Value} {vl vo : List Value} {l o : LL} (h : PM w n rl vl l ro vo o) {i g : Nat} {x : List UInt8} (hx : x.length = n) (hv : vl[i]? = some u) (hg : u.ownBlock = some g) (hf : Fr (· = g) w w')
    (hu : Ow w' 5 1 u x.length (x.map U8)) : PM w' n rl vl (l.set i x) ro vo o := by
  refine ⟨h.left.turn h.dl hv hg hf hu, h.out.fr hf fun b hb (e : b = g) => ?_, h.dl, h.do', h.apart, by rw [List.length_set]; exact h.ll, h.lo, ?_, h.wo⟩
  · subst e; exact h.apart b (.inr ⟨i, u, hv, hg⟩) hb
  · intro y hy
    rcases List.mem_or_eq_of_mem_set hy with e | rfl
    · exact h.wl y e
    · exact hx
theorem PM.turnR {w w' : World} {n : Nat} {rl ro u : Value} {vl vo : List Value} {l o : LL} (h : PM w n rl vl l ro vo o) {i g : Nat} {x : List UInt8} (hx : x.length = n) (hv : vo[i]? = some u) (hg : u.ownBlock = some g) (hf : Fr (· = g) w w')
    (hu : Ow w' 5 1 u x.length (x.map U8)) : PM w' n rl vl l ro vo (o.set i x) := by
  refine ⟨h.left.fr hf fun b hb (e : b = g) => ?_, h.out.turn h.do' hv hg hf hu, h.dl, h.do', h.apart, h.ll, by rw [List.length_set]; exact h.lo, h.wl, ?_⟩
  · subst e; exact h.apart b hb (.inr ⟨i, u, hv, hg⟩)
  · intro y hy
    rcases List.mem_or_eq_of_mem_set hy with e | rfl
    · exact h.wo y e
    · exact hx
/-- a row turned by a multiple of another: one round of one matrix of the two -/
theorem Ow.bs' {w : World} {e : TypeId} {v : Value} {xs : List UInt8} (h : Ow w e 1 v xs.length (xs.map U8)) : BS w w.heap.size v xs := h.bs fun b hb => h.lt hb

theorem clear_calls {w : World} {n fb : Nat} {rl ro : Value} {vl vo : List Value} {l o : LL} (h : PM w n rl vl l ro vo o) {c : Nat} (hc : c < n) (hn : n ≤ 1000) (hfa : FieldAt w fb) (hfb : ¬ Has2 rl vl ro vo fb) :
    Calls Try.prog f_matrix_clearColumn #[.pointer (some ⟨fb, 0, none⟩), rl, ro, .int .i64 c] w fun en w' => ∃ r, en = .returned r ∧ ∃ vl' vo', PM w' n rl vl' (clearC n c (l, o)).1 ro vo' (clearC n c (l, o)).2 ∧
      (∀ b, Has2 rl vl' ro vo' b → Has2 rl vl ro vo b ∨ w.heap.size ≤ b) ∧ Fr (Has2 rl vl ro vo) w w' := by
  have hll := h.ll
  have hlo := h.lo
  obtain ⟨uc, huc, hrc, gl, capl, hrl, hcl⟩ := h.left.at (j := c) (by omega)
  obtain ⟨xc, hxc, hsc, go', capo, hro, hco⟩ := h.out.at (j := c) (by omega)
  rw [hll] at hrl
  rw [hlo] at hro
  subst hrl
  subst hro
  have hwc : l[c].length = n := h.wl _ (List.getElem_mem (by omega))
  have hwo : o[c].length = n := h.wo _ (List.getElem_mem (by omega))
  have hne : gl ≠ go' := fun e => h.apart gl (.inl rfl) (.inl (by rw [e]; rfl))
  obtain ⟨gc, capc, huc', hcells⟩ := Ow.posRow hrc (by omega)
  have hcell := hcells c (by omega)
  have hen : entry l c c = l[c][c] := entry_eq (by omega) (by omega)
  refine calls_of_mf (args := [.pointer (some ⟨fb, 0, none⟩), .slice (some ⟨gl, 0, none⟩) n capl, .slice (some ⟨go', 0, none⟩) n capo, .int .i64 c]) c_matrix_clearColumn (by simp only [m_matrix_clearColumn, List.length]; decide) ?_
  rw [huc'] at hcl
  simp -dsimp (disch := omega) only [↓MC.wp, ↓opsWp, ↓drWp, ↓MOp.wp, evs, ev, eget, eput, eput?, pev, pbin, pint, pbool, pstr, psl, vnil, pbuild, overlay, ↓thenQ, ↓blockQ, ↓retQ, ↓resWp, tupV, stills, MOp.still, known, Op.operands, argEnv, ekeep, Nat.reduceAdd, reduceCtorEq, if_true, if_false, ↓reduceIte, ne_eq, Int.reduceEq, Int.reduceLT, Int.reduceLE, Int.reduceAdd, Int.reduceSub, Int.reduceMul, Int.reduceToNat, Nat.reduceMul, Nat.reduceLeDiff, Nat.reduceLT, Nat.reduceSub, WB, m_matrix_clearColumn, hcl, hcell]
  refine call (inv_calls hfa l[c][c]) ?_
  intro r w1 h1
  rw [h1.1]
  simp -dsimp (disch := omega) only [↓MC.wp, ↓opsWp, ↓drWp, ↓MOp.wp, evs, ev, eget, eput, eput?, pev, pbin, pint, pbool, pstr, psl, vnil, pbuild, overlay, ↓thenQ, ↓blockQ, ↓retQ, ↓resWp, tupV, stills, MOp.still, known, Op.operands, argEnv, ekeep, Nat.reduceAdd, reduceCtorEq, if_true, if_false, ↓reduceIte, ne_eq, Int.reduceEq, Int.reduceLT, Int.reduceLE, Int.reduceAdd, Int.reduceSub, Int.reduceMul, Int.reduceToNat, Nat.reduceMul, Nat.reduceLeDiff, Nat.reduceLT, Nat.reduceSub, WB]
  have hf1 := h1.2
  clear h1
  have hcl1 : w1.cell? ⟨gl, c, none⟩ = some (.slice (some ⟨gc, 0, none⟩) l[c].length capc) := by rw [hf1.cell (cell_block_lt hcl) (fun h => h)]; exact hcl
  have hco1 : w1.cell? ⟨go', c, none⟩ = some xc := by rw [hf1.cell (cell_block_lt hco) (fun h => h)]; exact hco
  have hrc1 : Ow w1.drew 5 1 (.slice (some ⟨gc, 0, none⟩) l[c].length capc) l[c].length (l[c].map U8) := by rw [← huc']; exact Ow.no hrc hf1.drew
  have hsc1 : Ow w1.drew 5 1 xc o[c].length (o[c].map U8) := Ow.no hsc hf1.drew
  have hfa1 : FieldAt w1.drew fb := hfa.fr hf1.drew fun h => h
  simp -dsimp (disch := omega) only [↓MC.wp, ↓opsWp, ↓drWp, ↓MOp.wp, evs, ev, eget, eput, eput?, pev, pbin, pint, pbool, pstr, psl, vnil, pbuild, overlay, ↓thenQ, ↓blockQ, ↓retQ, ↓resWp, tupV, stills, MOp.still, known, Op.operands, argEnv, ekeep, Nat.reduceAdd, reduceCtorEq, if_true, if_false, ↓reduceIte, ne_eq, Int.reduceEq, Int.reduceLT, Int.reduceLE, Int.reduceAdd, Int.reduceSub, Int.reduceMul, Int.reduceToNat, Nat.reduceMul, Nat.reduceLeDiff, Nat.reduceLT, Nat.reduceSub, WB, hcl1, hco1]
  refine call (row_calls hfa1 (ginv l[c][c]) (Ow.bs' hrc1) (Nat.le_refl _) (by omega)) ?_
  intro t1 w2 h2
  simp -dsimp (disch := omega) only [↓MC.wp, ↓opsWp, ↓drWp, ↓MOp.wp, evs, ev, eget, eput, eput?, pev, pbin, pint, pbool, pstr, psl, vnil, pbuild, overlay, ↓thenQ, ↓blockQ, ↓retQ, ↓resWp, tupV, stills, MOp.still, known, Op.operands, argEnv, ekeep, Nat.reduceAdd, reduceCtorEq, if_true, if_false, ↓reduceIte, ne_eq, Int.reduceEq, Int.reduceLT, Int.reduceLE, Int.reduceAdd, Int.reduceSub, Int.reduceMul, Int.reduceToNat, Nat.reduceMul, Nat.reduceLeDiff, Nat.reduceLT, Nat.reduceSub, WB]
  have ht1 := h2.1
  have hf2 := h2.2
  clear h2
  have hco2 : w2.cell? ⟨go', c, none⟩ = some xc := by rw [hf2.cell (cell_block_lt hco1) (fun h => h)]; exact hco1
  simp -dsimp (disch := omega) only [↓MC.wp, ↓opsWp, ↓drWp, ↓MOp.wp, evs, ev, eget, eput, eput?, pev, pbin, pint, pbool, pstr, psl, vnil, pbuild, overlay, ↓thenQ, ↓blockQ, ↓retQ, ↓resWp, tupV, stills, MOp.still, known, Op.operands, argEnv, ekeep, Nat.reduceAdd, reduceCtorEq, if_true, if_false, ↓reduceIte, ne_eq, Int.reduceEq, Int.reduceLT, Int.reduceLE, Int.reduceAdd, Int.reduceSub, Int.reduceMul, Int.reduceToNat, Nat.reduceMul, Nat.reduceLeDiff, Nat.reduceLT, Nat.reduceSub, WB, hco2]
  refine call (row_calls (hfa1.fr hf2 fun h => h) (ginv l[c][c]) (Ow.bs' (Ow.no hsc1 hf2)) (Nat.le_refl _) (by omega)) ?_
  intro t2 w3 h3
  simp -dsimp (disch := omega) only [↓MC.wp, ↓opsWp, ↓drWp, ↓MOp.wp, evs, ev, eget, eput, eput?, pev, pbin, pint, pbool, pstr, psl, vnil, pbuild, overlay, ↓thenQ, ↓blockQ, ↓retQ, ↓resWp, tupV, stills, MOp.still, known, Op.operands, argEnv, ekeep, Nat.reduceAdd, reduceCtorEq, if_true, if_false, ↓reduceIte, ne_eq, Int.reduceEq, Int.reduceLT, Int.reduceLE, Int.reduceAdd, Int.reduceSub, Int.reduceMul, Int.reduceToNat, Nat.reduceMul, Nat.reduceLeDiff, Nat.reduceLT, Nat.reduceSub, WB]
  have ht2 := h3.1
  have hf3 := h3.2
  clear h3
  have o1 := Ow.one ht1.1
  have o2 := Ow.one ht2.1
  have hf03 : Fr No w w3 := (hf1.drew.then hf2).then hf3
  have h3 := h.no hf03
  have hspl : Ow w3 29 1 (.slice (some ⟨gl, 0, none⟩) n capl) n vl := by have := h3.left.spine; rw [hll] at this; exact this
  have hspo : Ow w3 29 1 (.slice (some ⟨go', 0, none⟩) n capo) n vo := by have := h3.out.spine; rw [hlo] at this; exact this
  simp -dsimp (disch := omega) only [↓MC.wp, ↓opsWp, ↓drWp, ↓MOp.wp, evs, ev, eget, eput, eput?, pev, pbin, pint, pbool, pstr, psl, vnil, pbuild, overlay, ↓thenQ, ↓blockQ, ↓retQ, ↓resWp, tupV, stills, MOp.still, known, Op.operands, argEnv, ekeep, Nat.reduceAdd, reduceCtorEq, if_true, if_false, ↓reduceIte, ne_eq, Int.reduceEq, Int.reduceLT, Int.reduceLE, Int.reduceAdd, Int.reduceSub, Int.reduceMul, Int.reduceToNat, Nat.reduceMul, Nat.reduceLeDiff, Nat.reduceLT, Nat.reduceSub, WB, o1]
  refine hspl.set (j := c) (v := t1) hc o1 ?_
  intro w4 ho4 hf4 hs4
  simp -dsimp (disch := omega) only [↓MC.wp, ↓opsWp, ↓drWp, ↓MOp.wp, evs, ev, eget, eput, eput?, pev, pbin, pint, pbool, pstr, psl, vnil, pbuild, overlay, ↓thenQ, ↓blockQ, ↓retQ, ↓resWp, tupV, stills, MOp.still, known, Op.operands, argEnv, ekeep, Nat.reduceAdd, reduceCtorEq, if_true, if_false, ↓reduceIte, ne_eq, Int.reduceEq, Int.reduceLT, Int.reduceLE, Int.reduceAdd, Int.reduceSub, Int.reduceMul, Int.reduceToNat, Nat.reduceMul, Nat.reduceLeDiff, Nat.reduceLT, Nat.reduceSub, WB, o2]
  refine (Ow.fr hspo hf4 fun b hb (e : b = gl) => by cases hb; exact hne e.symm).set (j := c) (v := t2) hc o2 ?_
  intro w5 ho5 hf5 hs5
  simp -dsimp (disch := omega) only [↓MC.wp, ↓opsWp, ↓drWp, ↓MOp.wp, evs, ev, eget, eput, eput?, pev, pbin, pint, pbool, pstr, psl, vnil, pbuild, overlay, ↓thenQ, ↓blockQ, ↓retQ, ↓resWp, tupV, stills, MOp.still, known, Op.operands, argEnv, ekeep, Nat.reduceAdd, reduceCtorEq, if_true, if_false, ↓reduceIte, ne_eq, Int.reduceEq, Int.reduceLT, Int.reduceLE, Int.reduceAdd, Int.reduceSub, Int.reduceMul, Int.reduceToNat, Nat.reduceMul, Nat.reduceLeDiff, Nat.reduceLT, Nat.reduceSub, WB]
  have hf45 : Fr (fun b => b = gl ∨ b = go') w3 w5 := (hf4.mono fun b _ e => .inl e).step hf5 fun b _ e => .inr e
  have hf35 : Fr (fun b => (Value.slice (some ⟨gl, 0, none⟩) n capl).ownBlock = some b ∨ (Value.slice (some ⟨go', 0, none⟩) n capo).ownBlock = some b) w3 w5 :=
    hf45.mono fun b _ e => by rcases e with rfl | rfl; exact .inl rfl; exact .inr rfl
  have hgl : gl < w.heap.size := h.left.lt (.inl rfl)
  have hgo : go' < w.heap.size := h.out.lt (.inl rfl)
  have hs1 := hf1.size
  have hs2 : w1.heap.size ≤ w2.heap.size := hf2.size
  have hs3 := hf3.size
  have n1 : New' w.heap.size t1 := fun b hb => by have := ht1.2 b hb; have e : w1.drew.heap.size = w1.heap.size := rfl; omega
  have n2 : New' w2.heap.size t2 := ht2.2
  have hlt1 : ∀ b, t1.ownBlock = some b → b < w2.heap.size := fun b hb => Ow.lt ht1.1 hb
  have hf05 : Fr (fun b => (Value.slice (some ⟨gl, 0, none⟩) n capl).ownBlock = some b ∨ (Value.slice (some ⟨go', 0, none⟩) n capo).ownBlock = some b) w w5 := hf03.wide.trans hf35
  have hput := h.put (c := c) (x1 := l[c].map (gmul (ginv l[c][c]))) (x2 := o[c].map (gmul (ginv l[c][c]))) (t1 := t1) (t2 := t2) (w' := w5) (by rw [List.length_map]; exact hwc) (by rw [List.length_map]; exact hwo)
    (Ow.fr ho4 hf5 fun b hb (e : b = go') => by cases hb; exact hne e) ho5 hf05 (Ow.fr (Ow.no ht1.1 hf3) hf45 fun b hb e => by have := n1 b hb; omega) (Ow.fr ht2.1 hf45 fun b hb e => by have := n2 b hb; omega)
    n1 (n2.mono (by omega)) (fun b hb hb' => by have := hlt1 b hb; have := n2 b hb'; omega)
  have hnorm : norm c (l, o) = (l.set c (l[c].map (gmul (ginv l[c][c]))), o.set c (o[c].map (gmul (ginv l[c][c])))) := by
    have e1 : l.getD c [] = l[c] := getD_of_lt [] (by omega)
    have e2 : o.getD c [] = o[c] := getD_of_lt [] (by omega)
    show (l.set c ((l.getD c []).map (gmul (ginv (entry l c c)))), o.set c ((o.getD c []).map (gmul (ginv (entry l c c))))) = _
    rw [hen, e1, e2]
  have hp1 : PM w5 n (.slice (some ⟨gl, 0, none⟩) n capl) (vl.set c t1) (norm c (l, o)).1 (.slice (some ⟨go', 0, none⟩) n capo) (vo.set c t2) (norm c (l, o)).2 := by
    rw [hnorm]; exact hput
  have hHas : ∀ b, Has2 (.slice (some ⟨gl, 0, none⟩) n capl) (vl.set c t1) (.slice (some ⟨go', 0, none⟩) n capo) (vo.set c t2) b → Has2 (.slice (some ⟨gl, 0, none⟩) n capl) vl (.slice (some ⟨go', 0, none⟩) n capo) vo b ∨ w.heap.size ≤ b := by
    rintro b (hb | hb) <;> rcases hb.put with e | e
    · exact .inl (.inl e)
    · exact .inr (n1 b e)
    · exact .inl (.inr e)
    · exact .inr (Nat.le_trans (by omega) (n2 b e))
  have hfr5 : Fr (Has2 (.slice (some ⟨gl, 0, none⟩) n capl) vl (.slice (some ⟨go', 0, none⟩) n capo) vo) w w5 := hf05.mono fun b _ e => by
    rcases e with e | e
    · exact .inl (.inl e)
    · exact .inr (.inl e)
  generalize hvl' : vl.set c t1 = vl' at hp1 hHas
  generalize hvo' : vo.set c t2 = vo' at hp1 hHas
  generalize hpn : norm c (l, o) = p at hp1
  clear hput hnorm hf05 hf35 hf45 hf03 h3 hspl hspo ho4 ho5 hf4 hf5 hs4 hs5 ht1 ht2 n1 n2 hlt1 o1 o2 hf2 hf3 hfa1 hsc1 hrc1 hco1 hco2 hcl1 hf1 hs1 hs2 hs3 hvl' hvo'
  refine loopS [0, 1, 2, 3, 40, 41, 42] (fun k : Nat => [(0, .pointer (some ⟨fb, 0, none⟩)), (1, .slice (some ⟨gl, 0, none⟩) n capl), (2, .slice (some ⟨go', 0, none⟩) n capo), (3, .int .i64 c), (40, .slice (some ⟨gl, 0, none⟩) n capl), (41, .int .i64 n), (42, .int .i64 k)])
    (fun k w6 => k ≤ n ∧ PM w6 n (.slice (some ⟨gl, 0, none⟩) n capl) vl' (elim c p k).1 (.slice (some ⟨go', 0, none⟩) n capo) vo' (elim c p k).2 ∧ Fr (Has2 (.slice (some ⟨gl, 0, none⟩) n capl) vl (.slice (some ⟨go', 0, none⟩) n capo) vo) w w6)
    (fun k _ => n - k) 0 (by with_unfolding_all rfl) ⟨Nat.zero_le _, hp1, hfr5⟩ ?_
  rintro k w6 ⟨hk, hp, hf⟩
  by_cases hlt : k < n
  · generalize hq : elim c p k = q at hp
    obtain ⟨lk, ok⟩ := q
    dsimp only at hp
    have hlk := hp.ll
    have hok := hp.lo
    obtain ⟨uk, huk, hrk, hck⟩ := hp.left.at' (j := k) (by omega)
    obtain ⟨ud, hud, hrd, hcd⟩ := hp.left.at' (j := c) (by omega)
    have hwk : lk[k].length = n := hp.wl _ (List.getElem_mem (by omega))
    have hwd : lk[c].length = n := hp.wl _ (List.getElem_mem (by omega))
    obtain ⟨gk, capk, huk', hcells⟩ := Ow.posRow hrk (by omega)
    have hcellk := hcells c (by omega)
    have henk : entry lk k c = lk[k][c] := entry_eq (by omega) (by omega)
    subst huk'
    have hfa6 : FieldAt w6 fb := hfa.fr hf hfb
    by_cases hkc : k = c
    · simp -dsimp (disch := omega) only [↓MC.wp, ↓opsWp, ↓drWp, ↓MOp.wp, evs, ev, eget, eput, eput?, pev, pbin, pint, pbool, pstr, psl, vnil, pbuild, overlay, ↓thenQ, ↓blockQ, ↓retQ, ↓resWp, tupV, stills, MOp.still, known, Op.operands, argEnv, ekeep, Nat.reduceAdd, reduceCtorEq, if_true, if_false, ↓reduceIte, ne_eq, Int.reduceEq, Int.reduceLT, Int.reduceLE, Int.reduceAdd, Int.reduceSub, Int.reduceMul, Int.reduceToNat, Nat.reduceMul, Nat.reduceLeDiff, Nat.reduceLT, Nat.reduceSub, WB, hck, hcellk, U8]
      refine ⟨k + 1, rfl, ⟨by omega, ?_, hf⟩, by omega⟩
      rw [elim, hq, elim1, if_neg (fun e => e.1 hkc)]
      exact hp
    · by_cases h0 : lk[k][c].toNat = 0
      · simp -dsimp (disch := omega) only [↓MC.wp, ↓opsWp, ↓drWp, ↓MOp.wp, evs, ev, eget, eput, eput?, pev, pbin, pint, pbool, pstr, psl, vnil, pbuild, overlay, ↓thenQ, ↓blockQ, ↓retQ, ↓resWp, tupV, stills, MOp.still, known, Op.operands, argEnv, ekeep, Nat.reduceAdd, reduceCtorEq, if_true, if_false, ↓reduceIte, ne_eq, Int.reduceEq, Int.reduceLT, Int.reduceLE, Int.reduceAdd, Int.reduceSub, Int.reduceMul, Int.reduceToNat, Nat.reduceMul, Nat.reduceLeDiff, Nat.reduceLT, Nat.reduceSub, WB, hck, hcellk, U8]
        refine ⟨k + 1, rfl, ⟨by omega, ?_, hf⟩, by omega⟩
        rw [elim, hq, elim1, if_neg (fun e => e.2 (by rw [henk]; exact (u8_zero _).1 h0))]
        exact hp
      · have hfa6d : FieldAt w6.drew fb := hfa6
        have hrdd : Ow w6.drew 5 1 ud lk[c].length (lk[c].map U8) := hrd
        simp -dsimp (disch := omega) only [↓MC.wp, ↓opsWp, ↓drWp, ↓MOp.wp, evs, ev, eget, eput, eput?, pev, pbin, pint, pbool, pstr, psl, vnil, pbuild, overlay, ↓thenQ, ↓blockQ, ↓retQ, ↓resWp, tupV, stills, MOp.still, known, Op.operands, argEnv, ekeep, Nat.reduceAdd, reduceCtorEq, if_true, if_false, ↓reduceIte, ne_eq, Int.reduceEq, Int.reduceLT, Int.reduceLE, Int.reduceAdd, Int.reduceSub, Int.reduceMul, Int.reduceToNat, Nat.reduceMul, Nat.reduceLeDiff, Nat.reduceLT, Nat.reduceSub, WB, hck, hcellk, hcd, U8]
        refine call (row_calls hfa6d lk[k][c] (Ow.bs' hrdd) (Nat.le_refl _) (by omega)) ?_
        intro t w7 h7
        simp -dsimp (disch := omega) only [↓MC.wp, ↓opsWp, ↓drWp, ↓MOp.wp, evs, ev, eget, eput, eput?, pev, pbin, pint, pbool, pstr, psl, vnil, pbuild, overlay, ↓thenQ, ↓blockQ, ↓retQ, ↓resWp, tupV, stills, MOp.still, known, Op.operands, argEnv, ekeep, Nat.reduceAdd, reduceCtorEq, if_true, if_false, ↓reduceIte, ne_eq, Int.reduceEq, Int.reduceLT, Int.reduceLE, Int.reduceAdd, Int.reduceSub, Int.reduceMul, Int.reduceToNat, Nat.reduceMul, Nat.reduceLeDiff, Nat.reduceLT, Nat.reduceSub, WB]
        have ht := h7.1
        have hf7 := h7.2
        clear h7
        have hck7 : w7.cell? ⟨gl, k, none⟩ = some (.slice (some ⟨gk, 0, none⟩) lk[k].length capk) := by rw [hf7.cell (cell_block_lt hck) (fun h => h)]; exact hck
        simp -dsimp (disch := omega) only [↓MC.wp, ↓opsWp, ↓drWp, ↓MOp.wp, evs, ev, eget, eput, eput?, pev, pbin, pint, pbool, pstr, psl, vnil, pbuild, overlay, ↓thenQ, ↓blockQ, ↓retQ, ↓resWp, tupV, stills, MOp.still, known, Op.operands, argEnv, ekeep, Nat.reduceAdd, reduceCtorEq, if_true, if_false, ↓reduceIte, ne_eq, Int.reduceEq, Int.reduceLT, Int.reduceLE, Int.reduceAdd, Int.reduceSub, Int.reduceMul, Int.reduceToNat, Nat.reduceMul, Nat.reduceLeDiff, Nat.reduceLT, Nat.reduceSub, WB, hck7]
        have hgk6 : gk < w6.heap.size := Ow.lt hrk rfl
        have hbn : BN w7 gk t (lk[c].map (gmul lk[k][c])) := Ow.bn ht.1 fun e => by have := ht.2 gk e; have e2 : w6.drew.heap.size = w6.heap.size := rfl; omega
        have hp7 : PM w7 n (.slice (some ⟨gl, 0, none⟩) n capl) vl' lk (.slice (some ⟨go', 0, none⟩) n capo) vo' ok := hp.no hf7.of_drew
        have hle1 : (lk[c].map (gmul lk[k][c])).length ≤ lk[k].length := by rw [List.length_map]; omega
        have hrk7 : Ow w7 5 1 (.slice (some ⟨gk, 0, none⟩) lk[k].length capk) lk[k].length (lk[k].map U8) := Ow.no (w := w6.drew) hrk hf7
        have hpl := plus_calls hrk7 hbn hle1 (by omega)
        refine call hpl ?_
        intro r8 w8 h8
        simp -dsimp (disch := omega) only [↓MC.wp, ↓opsWp, ↓drWp, ↓MOp.wp, evs, ev, eget, eput, eput?, pev, pbin, pint, pbool, pstr, psl, vnil, pbuild, overlay, ↓thenQ, ↓blockQ, ↓retQ, ↓resWp, tupV, stills, MOp.still, known, Op.operands, argEnv, ekeep, Nat.reduceAdd, reduceCtorEq, if_true, if_false, ↓reduceIte, ne_eq, Int.reduceEq, Int.reduceLT, Int.reduceLE, Int.reduceAdd, Int.reduceSub, Int.reduceMul, Int.reduceToNat, Nat.reduceMul, Nat.reduceLeDiff, Nat.reduceLT, Nat.reduceSub, WB]
        have hr8 := h8.1
        have hf8 := h8.2
        clear h8
        have hlen1 : (xorL lk[k] (lk[c].map (gmul lk[k][c]))).length = n := by rw [xorL_length]; exact hwk
        have hr8' : Ow w8 5 1 (.slice (some ⟨gk, 0, none⟩) lk[k].length capk) (xorL lk[k] (lk[c].map (gmul lk[k][c]))).length ((xorL lk[k] (lk[c].map (gmul lk[k][c]))).map U8) := by
          rw [xorL_length]; exact hr8
        have hp8 := hp7.turnL hlen1 huk rfl hf8 hr8'
        clear hr8 hr8' hp7 hbn
        have hM : ∀ b, b < w.heap.size → b = gk → Has2 (.slice (some ⟨gl, 0, none⟩) n capl) vl (.slice (some ⟨go', 0, none⟩) n capo) vo b := fun b hb e => by
          subst e
          rcases hHas b (.inl (.inr ⟨k, _, huk, rfl⟩)) with h | h
          · exact h
          · omega
        have hf08 : Fr (Has2 (.slice (some ⟨gl, 0, none⟩) n capl) vl (.slice (some ⟨go', 0, none⟩) n capo) vo) w w8 := (hf.step hf7.of_drew fun b _ e => e.elim).step hf8 fun b hb e => hM b hb e
        obtain ⟨xk, hxk, hsk, hcxk⟩ := hp8.out.at' (j := k) (by omega)
        obtain ⟨xd, hxd, hsd, hcxd⟩ := hp8.out.at' (j := c) (by omega)
        have hwk2 : ok[k].length = n := hp8.wo _ (List.getElem_mem (by omega))
        have hwd2 : ok[c].length = n := hp8.wo _ (List.getElem_mem (by omega))
        obtain ⟨hk2, capk2, hxk', hcells2⟩ := Ow.posRow hsk (by omega)
        subst hxk'
        have hfa8 : FieldAt w8.drew fb := hfa.fr hf08.drew hfb
        have hsdd : Ow w8.drew 5 1 xd ok[c].length (ok[c].map U8) := hsd
        simp -dsimp (disch := omega) only [↓MC.wp, ↓opsWp, ↓drWp, ↓MOp.wp, evs, ev, eget, eput, eput?, pev, pbin, pint, pbool, pstr, psl, vnil, pbuild, overlay, ↓thenQ, ↓blockQ, ↓retQ, ↓resWp, tupV, stills, MOp.still, known, Op.operands, argEnv, ekeep, Nat.reduceAdd, reduceCtorEq, if_true, if_false, ↓reduceIte, ne_eq, Int.reduceEq, Int.reduceLT, Int.reduceLE, Int.reduceAdd, Int.reduceSub, Int.reduceMul, Int.reduceToNat, Nat.reduceMul, Nat.reduceLeDiff, Nat.reduceLT, Nat.reduceSub, WB, hcxk, hcxd]
        refine call (row_calls hfa8 lk[k][c] (Ow.bs' hsdd) (Nat.le_refl _) (by omega)) ?_
        intro t2 w9 h9
        simp -dsimp (disch := omega) only [↓MC.wp, ↓opsWp, ↓drWp, ↓MOp.wp, evs, ev, eget, eput, eput?, pev, pbin, pint, pbool, pstr, psl, vnil, pbuild, overlay, ↓thenQ, ↓blockQ, ↓retQ, ↓resWp, tupV, stills, MOp.still, known, Op.operands, argEnv, ekeep, Nat.reduceAdd, reduceCtorEq, if_true, if_false, ↓reduceIte, ne_eq, Int.reduceEq, Int.reduceLT, Int.reduceLE, Int.reduceAdd, Int.reduceSub, Int.reduceMul, Int.reduceToNat, Nat.reduceMul, Nat.reduceLeDiff, Nat.reduceLT, Nat.reduceSub, WB]
        have ht2 := h9.1
        have hf9 := h9.2
        clear h9
        have hck9 : w9.cell? ⟨go', k, none⟩ = some (.slice (some ⟨hk2, 0, none⟩) ok[k].length capk2) := by rw [hf9.cell (cell_block_lt hcxk) (fun h => h)]; exact hcxk
        simp -dsimp (disch := omega) only [↓MC.wp, ↓opsWp, ↓drWp, ↓MOp.wp, evs, ev, eget, eput, eput?, pev, pbin, pint, pbool, pstr, psl, vnil, pbuild, overlay, ↓thenQ, ↓blockQ, ↓retQ, ↓resWp, tupV, stills, MOp.still, known, Op.operands, argEnv, ekeep, Nat.reduceAdd, reduceCtorEq, if_true, if_false, ↓reduceIte, ne_eq, Int.reduceEq, Int.reduceLT, Int.reduceLE, Int.reduceAdd, Int.reduceSub, Int.reduceMul, Int.reduceToNat, Nat.reduceMul, Nat.reduceLeDiff, Nat.reduceLT, Nat.reduceSub, WB, hck9]
        have hgk8 : hk2 < w8.heap.size := Ow.lt hsk rfl
        have hbn2 : BN w9 hk2 t2 (ok[c].map (gmul lk[k][c])) := Ow.bn ht2.1 fun e => by have := ht2.2 hk2 e; have e2 : w8.drew.heap.size = w8.heap.size := rfl; omega
        have hp9 := hp8.no hf9.of_drew
        have hle2 : (ok[c].map (gmul lk[k][c])).length ≤ ok[k].length := by rw [List.length_map]; omega
        have hsk9 : Ow w9 5 1 (.slice (some ⟨hk2, 0, none⟩) ok[k].length capk2) ok[k].length (ok[k].map U8) := Ow.no (w := w8.drew) hsk hf9
        have hpl2 := plus_calls hsk9 hbn2 hle2 (by omega)
        refine call hpl2 ?_
        intro r10 w10 h10
        simp -dsimp (disch := omega) only [↓MC.wp, ↓opsWp, ↓drWp, ↓MOp.wp, evs, ev, eget, eput, eput?, pev, pbin, pint, pbool, pstr, psl, vnil, pbuild, overlay, ↓thenQ, ↓blockQ, ↓retQ, ↓resWp, tupV, stills, MOp.still, known, Op.operands, argEnv, ekeep, Nat.reduceAdd, reduceCtorEq, if_true, if_false, ↓reduceIte, ne_eq, Int.reduceEq, Int.reduceLT, Int.reduceLE, Int.reduceAdd, Int.reduceSub, Int.reduceMul, Int.reduceToNat, Nat.reduceMul, Nat.reduceLeDiff, Nat.reduceLT, Nat.reduceSub, WB]
        have hr10 := h10.1
        have hf10 := h10.2
        clear h10
        have hlen2 : (xorL ok[k] (ok[c].map (gmul lk[k][c]))).length = n := by rw [xorL_length]; exact hwk2
        have hr10' : Ow w10 5 1 (.slice (some ⟨hk2, 0, none⟩) ok[k].length capk2) (xorL ok[k] (ok[c].map (gmul lk[k][c]))).length ((xorL ok[k] (ok[c].map (gmul lk[k][c]))).map U8) := by
          rw [xorL_length]; exact hr10
        have hp10 := hp9.turnR hlen2 hxk rfl hf10 hr10'
        have hM2 : ∀ b, b < w.heap.size → b = hk2 → Has2 (.slice (some ⟨gl, 0, none⟩) n capl) vl (.slice (some ⟨go', 0, none⟩) n capo) vo b := fun b hb e => by
          subst e
          rcases hHas b (.inr (.inr ⟨k, _, hxk, rfl⟩)) with h | h
          · exact h
          · omega
        have hf010 : Fr (Has2 (.slice (some ⟨gl, 0, none⟩) n capl) vl (.slice (some ⟨go', 0, none⟩) n capo) vo) w w10 := (hf08.step hf9.of_drew fun b _ e => e.elim).step hf10 fun b hb e => hM2 b hb e
        refine ⟨k + 1, rfl, ⟨by omega, ?_, hf010⟩, by omega⟩
        have e1 : lk.getD k [] = lk[k] := getD_of_lt [] (by omega)
        have e2 : lk.getD c [] = lk[c] := getD_of_lt [] (by omega)
        have e3 : ok.getD k [] = ok[k] := getD_of_lt [] (by omega)
        have e4 : ok.getD c [] = ok[c] := getD_of_lt [] (by omega)
        rw [elim, hq, elim1, if_pos ⟨hkc, by rw [henk]; exact fun e => h0 ((u8_zero _).2 e)⟩]
        dsimp only
        rw [henk, e1, e2, e3, e4]
        exact hp10
  · simp -dsimp (disch := omega) only [↓MC.wp, ↓opsWp, ↓drWp, ↓MOp.wp, evs, ev, eget, eput, eput?, pev, pbin, pint, pbool, pstr, psl, vnil, pbuild, overlay, ↓thenQ, ↓blockQ, ↓retQ, ↓resWp, tupV, stills, MOp.still, known, Op.operands, argEnv, ekeep, Nat.reduceAdd, reduceCtorEq, if_true, if_false, ↓reduceIte, ne_eq, Int.reduceEq, Int.reduceLT, Int.reduceLE, Int.reduceAdd, Int.reduceSub, Int.reduceMul, Int.reduceToNat, Nat.reduceMul, Nat.reduceLeDiff, Nat.reduceLT, Nat.reduceSub, WB]
    have : k = n := by omega
    subst this
    rw [clearC, hpn]
    exact ⟨vl', vo', hp, hHas, hf⟩
end Go.Proofs.Ytgpkbldlkadnjaa
end
section
/- Walks: Invert. -/
set_option linter.unusedVariables false
set_option linter.unusedSimpArgs false
set_option maxHeartbeats 3000000
attribute [local irreducible] Go.Sl.Chk Go.Sl.Br Go.Sl.Ld Go.Sl.Ldn Go.Sl.LdB Go.Sl.Stn Go.Sl.New Go.Sl.Run Go.Sl.RunU Go.Sl.RunX Go.Sl.Call Go.Sl.LoopK Go.Sl.RawK Go.Sl.ev Go.Sl.eget
namespace Go.Proofs.Ytgpkbldlkadnjaa
open Go Go.Sl Go.RowKit

def invTo (n : Nat) (p : LL × LL) : Nat → Option (LL × LL)
  | 0 => some p
  | c + 1 => match invTo n p c with
    | none => none
    | some q => match findP q.1 n c with
      | none => none
      | some i => some (clearC n c (swp [] q.1 c i, swp [] q.2 c i))
theorem invTo_none {n : Nat} {p : LL × LL} {c : Nat} (h : invTo n p c = none) : ∀ k, invTo n p (c + k) = none
  | 0 => h
  | k + 1 => by
    show invTo n p (c + k + 1) = none
    rw [invTo, invTo_none h k]
def invert (m : LL) : Option LL := if m.length = width m then (invTo m.length (m, coding m.length m.length) m.length).map (·.2) else none
theorem coding_length (k n : Nat) : (coding k n).length = n := by simp [coding]
theorem coding_wide (k n : Nat) : ∀ x ∈ coding k n, x.length = k := by
  intro x hx
  simp only [coding, List.mem_map] at hx
  obtain ⟨i, _, rfl⟩ := hx
  simp [codeRow]
theorem Has2.swap {rl ro : Value} {vl vo : List Value} {c i b : Nat} (h1 : c < vl.length) (h2 : i < vl.length) (h3 : c < vo.length) (h4 : i < vo.length) (h : Has2 rl (swp undef vl c i) ro (swp undef vo c i) b) : Has2 rl vl ro vo b := by
  rcases h with h | h
  · exact .inl (h.reorder (swp_get undef h1 h2))
  · exact .inr (h.reorder (swp_get undef h3 h4))
theorem PM.lens {w : World} {n : Nat} {rl ro : Value} {vl vo : List Value} {l o : LL} (h : PM w n rl vl l ro vo o) : vl.length = n ∧ vo.length = n := ⟨by rw [h.left.len]; exact h.ll, by rw [h.out.len]; exact h.lo⟩
theorem newPM {wa wb w : World} {n : Nat} {rl ro : Value} {l o : LL} (h1 : NewMat wa.heap.size wb rl l) (h2 : NewMat wb.heap.size w ro o) (hf : Fr No wb w) (hab : wa.heap.size ≤ wb.heap.size) (e1 : l.length = n) (e2 : o.length = n) (e3 : ∀ x ∈ l, x.length = n) (e4 : ∀ x ∈ o, x.length = n) :
    ∃ vl vo, PM w n rl vl l ro vo o ∧ ∀ b, Has2 rl vl ro vo b → wa.heap.size ≤ b := by
  obtain ⟨vl, a1, a2, a3⟩ := h1
  obtain ⟨vo, b1, b2, b3⟩ := h2
  refine ⟨vl, vo, ⟨a1.no hf, b1, a2, b2, fun b hb hb' => ?_, e1, e2, e3, e4⟩, fun b hb => ?_⟩
  · have := a1.lt hb
    have := b3 b hb'
    omega
  · rcases hb with hb | hb
    · exact a3 b hb
    · have := b3 b hb; omega
/-- what holds behind c columns -/
def InvJ (n : Nat) (w0 : World) (rl ro : Value) (p : LL × LL) (c : Nat) (w : World) : Prop := c ≤ n ∧ ∃ l o vl vo, invTo n p c = some (l, o) ∧ PM w n rl vl l ro vo o ∧ (∀ b, Has2 rl vl ro vo b → w0.heap.size ≤ b) ∧ Fr No w0 w
theorem PM.newOut {w : World} {n B : Nat} {rl ro : Value} {vl vo : List Value} {l o : LL} (h : PM w n rl vl l ro vo o) (hb : ∀ b, Has2 rl vl ro vo b → B ≤ b) : NewMat B w ro o := ⟨vo, h.out, h.do', fun b hh => hb b (.inr hh)⟩

theorem invert_calls {w : World} {B : Nat} {v : Value} {m : LL} (hm : MS w B v m) (hB : B ≤ w.heap.size) (rm : RightM m) (sm : Small m) :
    Calls Try.prog f_matrix_Invert #[v] w fun en w' => ∃ r, en = .returned r ∧ ∃ r1, r = .tuple #[r1, .bool (invert m).isSome] ∧ NewMat w.heap.size w' r1 ((invert m).getD []) ∧ Fr No w w' := by
  obtain ⟨A, cp, rfl, hc, hr⟩ := hm.open
  have pm := rm.pos
  have hh := sm.high
  obtain ⟨ad0, u0, rfl, had0, hcell0, hrow0⟩ := hr 0 pm
  obtain ⟨B0, c0, rfl, hc0, hr0⟩ := hrow0.open
  have wm : m[0].length = width m := by rw [width, getD_of_lt [] pm]
  rw [wm] at hcell0
  refine calls_of_mf (args := [.slice (some ad0) m.length cp]) c_matrix_Invert (by simp only [m_matrix_Invert, List.length]; decide) ?_
  by_cases hw : m.length = width m
  · simp -dsimp (disch := omega) only [↓MC.wp, ↓opsWp, ↓drWp, ↓MOp.wp, evs, ev, eget, eput, eput?, pev, pbin, pint, pbool, pstr, psl, vnil, pbuild, overlay, ↓thenQ, ↓blockQ, ↓retQ, ↓resWp, tupV, stills, MOp.still, known, Op.operands, argEnv, ekeep, Nat.reduceAdd, reduceCtorEq, if_true, if_false, ↓reduceIte, ne_eq, Int.reduceEq, Int.reduceLT, Int.reduceLE, Int.reduceAdd, Int.reduceSub, Int.reduceMul, Int.reduceToNat, Nat.reduceMul, Nat.reduceLeDiff, Nat.reduceLT, Nat.reduceSub, WB, m_matrix_Invert, hcell0]
    refine call (new_calls w) ?_
    intro r w0 h1
    rw [h1.1]
    simp -dsimp (disch := omega) only [↓MC.wp, ↓opsWp, ↓drWp, ↓MOp.wp, evs, ev, eget, eput, eput?, pev, pbin, pint, pbool, pstr, psl, vnil, pbuild, overlay, ↓thenQ, ↓blockQ, ↓retQ, ↓resWp, tupV, stills, MOp.still, known, Op.operands, argEnv, ekeep, Nat.reduceAdd, reduceCtorEq, if_true, if_false, ↓reduceIte, ne_eq, Int.reduceEq, Int.reduceLT, Int.reduceLE, Int.reduceAdd, Int.reduceSub, Int.reduceMul, Int.reduceToNat, Nat.reduceMul, Nat.reduceLeDiff, Nat.reduceLT, Nat.reduceSub, WB]
    have hfa := h1.2.1
    have hf0 := h1.2.2
    clear h1
    have hlt0 : w.heap.size < w0.heap.size := hfa.lt
    have hm0 : MS w0 B (.slice (some ad0) m.length cp) m := hm.fr hf0 fun _ _ h => h
    refine call (copied_calls hm0 (by omega) (by omega) fun x hx => by have := sm.wide x hx; omega) ?_
    intro rl w1 h2
    simp -dsimp (disch := omega) only [↓MC.wp, ↓opsWp, ↓drWp, ↓MOp.wp, evs, ev, eget, eput, eput?, pev, pbin, pint, pbool, pstr, psl, vnil, pbuild, overlay, ↓thenQ, ↓blockQ, ↓retQ, ↓resWp, tupV, stills, MOp.still, known, Op.operands, argEnv, ekeep, Nat.reduceAdd, reduceCtorEq, if_true, if_false, ↓reduceIte, ne_eq, Int.reduceEq, Int.reduceLT, Int.reduceLE, Int.reduceAdd, Int.reduceSub, Int.reduceMul, Int.reduceToNat, Nat.reduceMul, Nat.reduceLeDiff, Nat.reduceLT, Nat.reduceSub, WB]
    refine call (one_calls m.length hh) ?_
    intro ro w2 h3
    simp -dsimp (disch := omega) only [↓MC.wp, ↓opsWp, ↓drWp, ↓MOp.wp, evs, ev, eget, eput, eput?, pev, pbin, pint, pbool, pstr, psl, vnil, pbuild, overlay, ↓thenQ, ↓blockQ, ↓retQ, ↓resWp, tupV, stills, MOp.still, known, Op.operands, argEnv, ekeep, Nat.reduceAdd, reduceCtorEq, if_true, if_false, ↓reduceIte, ne_eq, Int.reduceEq, Int.reduceLT, Int.reduceLE, Int.reduceAdd, Int.reduceSub, Int.reduceMul, Int.reduceToNat, Nat.reduceMul, Nat.reduceLeDiff, Nat.reduceLT, Nat.reduceSub, WB]
    have hfr1 := h2.2
    have hfr2 := h3.2
    have hsz := hfr1.size
    obtain ⟨vl0, vo0, hpm, hnew⟩ := newPM (n := m.length) h2.1 h3.1 hfr2 hsz rfl (coding_length _ _) (fun x hx => by rw [rm.all x hx]; exact hw.symm) (coding_wide _ _)
    obtain ⟨u9, hu9, hr9, g, cap, hrl, hc9⟩ := hpm.left.at (j := 0) pm
    clear hr9 hc9 hu9
    subst hrl
    simp -dsimp (disch := omega) only [↓MC.wp, ↓opsWp, ↓drWp, ↓MOp.wp, evs, ev, eget, eput, eput?, pev, pbin, pint, pbool, pstr, psl, vnil, pbuild, overlay, ↓thenQ, ↓blockQ, ↓retQ, ↓resWp, tupV, stills, MOp.still, known, Op.operands, argEnv, ekeep, Nat.reduceAdd, reduceCtorEq, if_true, if_false, ↓reduceIte, ne_eq, Int.reduceEq, Int.reduceLT, Int.reduceLE, Int.reduceAdd, Int.reduceSub, Int.reduceMul, Int.reduceToNat, Nat.reduceMul, Nat.reduceLeDiff, Nat.reduceLT, Nat.reduceSub, WB]
    refine loopS [4, 5, 6, 21, 22, 23] (fun c : Nat => [(4, .pointer (some ⟨w.heap.size, 0, none⟩)), (5, .slice (some ⟨g, 0, none⟩) m.length cap), (6, ro), (21, .slice (some ⟨g, 0, none⟩) m.length cap), (22, .int .i64 m.length), (23, .int .i64 c)])
      (InvJ m.length w0 (.slice (some ⟨g, 0, none⟩) m.length cap) ro (m, coding m.length m.length)) (fun c _ => m.length - c) 0 (by with_unfolding_all rfl) ⟨Nat.zero_le _, m, _, vl0, vo0, rfl, hpm, hnew, hfr1.then hfr2⟩ ?_
    clear hpm hnew vl0 vo0 h2 h3 hfr1 hfr2 hsz hm0
    intro c w3 hJ
    by_cases hlt : c < m.length
    · simp -dsimp (disch := omega) only [↓MC.wp, ↓opsWp, ↓drWp, ↓MOp.wp, evs, ev, eget, eput, eput?, pev, pbin, pint, pbool, pstr, psl, vnil, pbuild, overlay, ↓thenQ, ↓blockQ, ↓retQ, ↓resWp, tupV, stills, MOp.still, known, Op.operands, argEnv, ekeep, Nat.reduceAdd, reduceCtorEq, if_true, if_false, ↓reduceIte, ne_eq, Int.reduceEq, Int.reduceLT, Int.reduceLE, Int.reduceAdd, Int.reduceSub, Int.reduceMul, Int.reduceToNat, Nat.reduceMul, Nat.reduceLeDiff, Nat.reduceLT, Nat.reduceSub, WB]
      obtain ⟨hcn, l, o, vl, vo, hinv, hp, hnew, hf3⟩ := hJ
      refine call (pivot_calls hp hlt hh) ?_
      intro r w4 h4
      have hr4 : r = .bool (findP l m.length c).isSome := by
        rcases h4 with ⟨e1, e2, _⟩ | ⟨i, _, e1, e2, _⟩
        · rw [e1, e2]; rfl
        · rw [e1, e2]; rfl
      rw [hr4]
      simp -dsimp (disch := omega) only [↓MC.wp, ↓opsWp, ↓drWp, ↓MOp.wp, evs, ev, eget, eput, eput?, pev, pbin, pint, pbool, pstr, psl, vnil, pbuild, overlay, ↓thenQ, ↓blockQ, ↓retQ, ↓resWp, tupV, stills, MOp.still, known, Op.operands, argEnv, ekeep, Nat.reduceAdd, reduceCtorEq, if_true, if_false, ↓reduceIte, ne_eq, Int.reduceEq, Int.reduceLT, Int.reduceLE, Int.reduceAdd, Int.reduceSub, Int.reduceMul, Int.reduceToNat, Nat.reduceMul, Nat.reduceLeDiff, Nat.reduceLT, Nat.reduceSub, WB]
      refine br ?_ ?_
      · intro hb
        simp -dsimp (disch := omega) only [↓MC.wp, ↓opsWp, ↓drWp, ↓MOp.wp, evs, ev, eget, eput, eput?, pev, pbin, pint, pbool, pstr, psl, vnil, pbuild, overlay, ↓thenQ, ↓blockQ, ↓retQ, ↓resWp, tupV, stills, MOp.still, known, Op.operands, argEnv, ekeep, Nat.reduceAdd, reduceCtorEq, if_true, if_false, ↓reduceIte, ne_eq, Int.reduceEq, Int.reduceLT, Int.reduceLE, Int.reduceAdd, Int.reduceSub, Int.reduceMul, Int.reduceToNat, Nat.reduceMul, Nat.reduceLeDiff, Nat.reduceLT, Nat.reduceSub, WB]
        have hnone : findP l m.length c = none := by
          cases hq : findP l m.length c with
          | none => rfl
          | some i => rw [hq] at hb; simp at hb
        have hf4 : Fr No w3 w4 := by
          rcases h4 with ⟨_, _, hf⟩ | ⟨i, _, e1, _⟩
          · exact hf
          · rw [hnone] at e1; cases e1
        have : invTo m.length (m, coding m.length m.length) m.length = none := by
          have e : m.length = (c + 1) + (m.length - (c + 1)) := by omega
          have e2 : invTo m.length (m, coding m.length m.length) (c + 1) = none := by rw [invTo, hinv]; simp only [hnone]
          have := invTo_none e2 (m.length - (c + 1))
          rw [← e] at this
          exact this
        have hnv : invert m = none := by rw [invert, if_pos hw, this]; rfl
        rw [hnv]
        exact ⟨_, rfl, NewMat.nil _ _, (hf0.then hf3).then hf4⟩
      · intro hb
        simp -dsimp (disch := omega) only [↓MC.wp, ↓opsWp, ↓drWp, ↓MOp.wp, evs, ev, eget, eput, eput?, pev, pbin, pint, pbool, pstr, psl, vnil, pbuild, overlay, ↓thenQ, ↓blockQ, ↓retQ, ↓resWp, tupV, stills, MOp.still, known, Op.operands, argEnv, ekeep, Nat.reduceAdd, reduceCtorEq, if_true, if_false, ↓reduceIte, ne_eq, Int.reduceEq, Int.reduceLT, Int.reduceLE, Int.reduceAdd, Int.reduceSub, Int.reduceMul, Int.reduceToNat, Nat.reduceMul, Nat.reduceLeDiff, Nat.reduceLT, Nat.reduceSub, WB]
        obtain ⟨i, hi, hfi, hp4, hf4⟩ : ∃ i, i < m.length ∧ findP l m.length c = some i ∧ PM w4 m.length (.slice (some ⟨g, 0, none⟩) m.length cap) (swp undef vl c i) (swp [] l c i) ro (swp undef vo c i) (swp [] o c i) ∧
            Fr (fun b => (Value.slice (some ⟨g, 0, none⟩) m.length cap).ownBlock = some b ∨ ro.ownBlock = some b) w3 w4 := by
          rcases h4 with ⟨e1, _⟩ | ⟨i, h1, h2, _, h3, h5⟩
          · rw [e1] at hb; simp at hb
          · exact ⟨i, h1, h2, h3, h5⟩
        have hls := hp.lens
        have hnew4 : ∀ b, Has2 (.slice (some ⟨g, 0, none⟩) m.length cap) (swp undef vl c i) ro (swp undef vo c i) b → w0.heap.size ≤ b := fun b hb => hnew b (hb.swap (by omega) (by omega) (by omega) (by omega))
        have hf04 : Fr No w0 w4 := hf3.step hf4 fun b hb e => by
          have : Has2 (.slice (some ⟨g, 0, none⟩) m.length cap) vl ro vo b := by rcases e with e | e; exact .inl (.inl e); exact .inr (.inl e)
          have := hnew b this
          omega
        have hfa4 : FieldAt w4 w.heap.size := hfa.fr hf04 fun h => h
        refine call (clear_calls hp4 hlt hh hfa4 fun hb => by have := hnew4 _ hb; omega) ?_
        intro r5 w5 h5
        simp -dsimp (disch := omega) only [↓MC.wp, ↓opsWp, ↓drWp, ↓MOp.wp, evs, ev, eget, eput, eput?, pev, pbin, pint, pbool, pstr, psl, vnil, pbuild, overlay, ↓thenQ, ↓blockQ, ↓retQ, ↓resWp, tupV, stills, MOp.still, known, Op.operands, argEnv, ekeep, Nat.reduceAdd, reduceCtorEq, if_true, if_false, ↓reduceIte, ne_eq, Int.reduceEq, Int.reduceLT, Int.reduceLE, Int.reduceAdd, Int.reduceSub, Int.reduceMul, Int.reduceToNat, Nat.reduceMul, Nat.reduceLeDiff, Nat.reduceLT, Nat.reduceSub, WB]
        obtain ⟨vl', vo', hp5, hn5, hf5⟩ := h5
        have hsz4 := hf04.size
        refine ⟨c + 1, rfl, ⟨by omega, _, _, vl', vo', ?_, hp5, fun b hb => ?_, hf04.step hf5 fun b hb e => ?_⟩, by omega⟩
        · rw [invTo, hinv]
          simp only [hfi]
        · rcases hn5 b hb with h | h
          · exact hnew4 b h
          · omega
        · have := hnew4 b e; omega
    · simp -dsimp (disch := omega) only [↓MC.wp, ↓opsWp, ↓drWp, ↓MOp.wp, evs, ev, eget, eput, eput?, pev, pbin, pint, pbool, pstr, psl, vnil, pbuild, overlay, ↓thenQ, ↓blockQ, ↓retQ, ↓resWp, tupV, stills, MOp.still, known, Op.operands, argEnv, ekeep, Nat.reduceAdd, reduceCtorEq, if_true, if_false, ↓reduceIte, ne_eq, Int.reduceEq, Int.reduceLT, Int.reduceLE, Int.reduceAdd, Int.reduceSub, Int.reduceMul, Int.reduceToNat, Nat.reduceMul, Nat.reduceLeDiff, Nat.reduceLT, Nat.reduceSub, WB]
      obtain ⟨hcn, l, o, vl, vo, hinv, hp, hnew, hf3⟩ := hJ
      have hcm : c = m.length := by omega
      subst hcm
      have hnv : invert m = some o := by rw [invert, if_pos hw, hinv]; rfl
      rw [hnv]
      exact ⟨_, rfl, (hp.newOut hnew).mono (by omega), hf0.then hf3⟩
  · simp -dsimp (disch := omega) only [↓MC.wp, ↓opsWp, ↓drWp, ↓MOp.wp, evs, ev, eget, eput, eput?, pev, pbin, pint, pbool, pstr, psl, vnil, pbuild, overlay, ↓thenQ, ↓blockQ, ↓retQ, ↓resWp, tupV, stills, MOp.still, known, Op.operands, argEnv, ekeep, Nat.reduceAdd, reduceCtorEq, if_true, if_false, ↓reduceIte, ne_eq, Int.reduceEq, Int.reduceLT, Int.reduceLE, Int.reduceAdd, Int.reduceSub, Int.reduceMul, Int.reduceToNat, Nat.reduceMul, Nat.reduceLeDiff, Nat.reduceLT, Nat.reduceSub, WB, m_matrix_Invert, hcell0]
    rw [show invert m = none from by rw [invert, if_neg hw]]
    exact ⟨_, rfl, NewMat.nil _ _, Fr.refl _ _⟩
end Go.Proofs.Ytgpkbldlkadnjaa
end
section
/- Walks: the reference's products and contraries. -/
set_option linter.unusedVariables false
set_option linter.unusedSimpArgs false
set_option maxHeartbeats 3000000
attribute [local irreducible] Go.Sl.Chk Go.Sl.Br Go.Sl.Ld Go.Sl.Ldn Go.Sl.LdB Go.Sl.Stn Go.Sl.New Go.Sl.Run Go.Sl.RunU Go.Sl.RunX Go.Sl.Call Go.Sl.LoopK Go.Sl.RawK Go.Sl.ev Go.Sl.eget
namespace Go.Proofs.Ytgpkbldlkadnjaa
open Go Go.Sl Go.RowKit

/-- x, y, out behind so many rounds -/
def rmSt (a b : Nat) : Nat → Nat × Nat × Nat
  | 0 => (a, b, 0)
  | k + 1 => (stepX (rmSt a b k).1, (rmSt a b k).2.1 / 2, if (rmSt a b k).2.1 % 2 = 1 then (rmSt a b k).2.2 ^^^ (rmSt a b k).1 else (rmSt a b k).2.2)
def rmul (a b : UInt8) : UInt8 := UInt8.ofNat (rmSt a.toNat b.toNat 8).2.2
theorem rmSt_lt {a b : Nat} (ha : a < 256) (hb : b < 256) : ∀ k, (rmSt a b k).1 < 256 ∧ (rmSt a b k).2.1 < 256 ∧ (rmSt a b k).2.2 < 256
  | 0 => ⟨ha, hb, by show (0 : Nat) < 256; omega⟩
  | k + 1 => by
    obtain ⟨h1, h2, h3⟩ := rmSt_lt ha hb k
    refine ⟨stepX_lt _ h1, ?_, ?_⟩
    · show (rmSt a b k).2.1 / 2 < 256
      omega
    · show (if (rmSt a b k).2.1 % 2 = 1 then (rmSt a b k).2.2 ^^^ (rmSt a b k).1 else (rmSt a b k).2.2) < 256
      split
      · exact Nat.xor_lt_two_pow (n := 8) h3 h1
      · exact h3
theorem mod2 (y : Nat) : (y : Int) % 2 = ((y % 2 : Nat) : Int) := by omega
theorem div2 (y : Nat) : (y : Int) / 2 = ((y / 2 : Nat) : Int) := by omega
theorem xor_i64' (x y : Nat) (hx : x < 1048576) (hy : y < 1048576) : IntKind.i64.wrap (BitVec.ofInt IntKind.i64.bits (x : Int) ^^^ BitVec.ofInt IntKind.i64.bits (y : Int)).toNat = ((x ^^^ y : Nat) : Int) := by
  have h1 : ∀ n : Nat, BitVec.ofInt 64 (n : Int) = BitVec.ofNat 64 n := fun n => by
    apply BitVec.eq_of_toNat_eq
    simp
  have h3 : x ^^^ y < 2 ^ 20 := Nat.xor_lt_two_pow (by omega) (by omega)
  show IntKind.i64.wrap (((BitVec.ofInt 64 (x : Int) ^^^ BitVec.ofInt 64 (y : Int)).toNat : Nat) : Int) = _
  rw [h1, h1, BitVec.toNat_xor, BitVec.toNat_ofNat, BitVec.toNat_ofNat, Nat.mod_eq_of_lt (by omega), Nat.mod_eq_of_lt (by omega), wrap_i64 (by omega)]
theorem mul2 (x : Nat) : (x : Int) * 2 = ((2 * x : Nat) : Int) := by omega
theorem xor285' (x : Nat) (h : x < 1048576) : IntKind.i64.wrap (BitVec.ofInt IntKind.i64.bits (x : Int) ^^^ BitVec.ofInt IntKind.i64.bits 285).toNat = ((x ^^^ 285 : Nat) : Int) := xor_i64' x 285 h (by omega)
theorem conv_u8' (n : Nat) : IntKind.u8.wrap (n : Int) = ((UInt8.ofNat n).toNat : Int) := by
  rw [UInt8.toNat_ofNat']
  unfold IntKind.wrap
  simp only [IntKind.bits, IntKind.signed]
  have : ((n % 2 ^ 8 : Nat) : Int) = (n : Int) % 2 ^ 8 := by omega
  rw [this]
  simp

theorem rmul_calls {w : World} (a b : UInt8) : Calls Try.prog f_ref03_Mul #[U8 a, U8 b] w fun en w' => ∃ r, en = .returned r ∧ (r = U8 (rmul a b) ∧ Fr No w w') := by
  refine calls_of_mf (args := [U8 a, U8 b]) c_ref03_Mul (by simp only [m_ref03_Mul, List.length]; decide) ?_
  have ha := a.toNat_lt
  have hb := b.toNat_lt
  simp -dsimp (disch := omega) only [↓MC.wp, ↓opsWp, ↓drWp, ↓MOp.wp, evs, ev, eget, eput, eput?, pev, pbin, pint, pbool, pstr, psl, vnil, pbuild, overlay, ↓thenQ, ↓blockQ, ↓retQ, ↓resWp, tupV, stills, MOp.still, known, Op.operands, argEnv, ekeep, Nat.reduceAdd, reduceCtorEq, if_true, if_false, ↓reduceIte, ne_eq, Int.reduceEq, Int.reduceLT, Int.reduceLE, Int.reduceAdd, Int.reduceSub, Int.reduceMul, Int.reduceToNat, Nat.reduceMul, Nat.reduceLeDiff, Nat.reduceLT, Nat.reduceSub, WB, m_ref03_Mul, U8]
  refine loopS [5, 6, 7, 8] (fun k : Nat => [(5, .int .i64 ((rmSt a.toNat b.toNat k).1 : Nat)), (6, .int .i64 ((rmSt a.toNat b.toNat k).2.1 : Nat)), (7, .int .i64 ((rmSt a.toNat b.toNat k).2.2 : Nat)), (8, .int .i64 k)])
    (fun k w1 => k ≤ 8 ∧ Fr No w w1) (fun k _ => 8 - k) 0 (by with_unfolding_all rfl) ⟨by omega, Fr.refl _ _⟩ ?_
  rintro k w1 ⟨hk, hf⟩
  by_cases hlt : k < 8
  · obtain ⟨h1, h2, h3⟩ := rmSt_lt (a := a.toNat) (b := b.toNat) ha hb k
    have e1 : (rmSt a.toNat b.toNat (k + 1)).1 = stepX (rmSt a.toNat b.toNat k).1 := rfl
    have e2 : (rmSt a.toNat b.toNat (k + 1)).2.1 = (rmSt a.toNat b.toNat k).2.1 / 2 := rfl
    have e3 : (rmSt a.toNat b.toNat (k + 1)).2.2 = if (rmSt a.toNat b.toNat k).2.1 % 2 = 1 then (rmSt a.toNat b.toNat k).2.2 ^^^ (rmSt a.toNat b.toNat k).1 else (rmSt a.toNat b.toNat k).2.2 := rfl
    by_cases hy : (rmSt a.toNat b.toNat k).2.1 % 2 = 1 <;> by_cases hx : 255 < 2 * (rmSt a.toNat b.toNat k).1
    · simp -dsimp (disch := omega) only [↓MC.wp, ↓opsWp, ↓drWp, ↓MOp.wp, evs, ev, eget, eput, eput?, pev, pbin, pint, pbool, pstr, psl, vnil, pbuild, overlay, ↓thenQ, ↓blockQ, ↓retQ, ↓resWp, tupV, stills, MOp.still, known, Op.operands, argEnv, ekeep, Nat.reduceAdd, reduceCtorEq, if_true, if_false, ↓reduceIte, ne_eq, Int.reduceEq, Int.reduceLT, Int.reduceLE, Int.reduceAdd, Int.reduceSub, Int.reduceMul, Int.reduceToNat, Nat.reduceMul, Nat.reduceLeDiff, Nat.reduceLT, Nat.reduceSub, WB, mod2, div2, mul2, xor_i64', xor285']
      refine ⟨k + 1, ?_, ⟨by omega, hf⟩, by omega⟩
      rw [e1, e2, e3, if_pos hy, stepX, if_pos hx]
      simp
    · simp -dsimp (disch := omega) only [↓MC.wp, ↓opsWp, ↓drWp, ↓MOp.wp, evs, ev, eget, eput, eput?, pev, pbin, pint, pbool, pstr, psl, vnil, pbuild, overlay, ↓thenQ, ↓blockQ, ↓retQ, ↓resWp, tupV, stills, MOp.still, known, Op.operands, argEnv, ekeep, Nat.reduceAdd, reduceCtorEq, if_true, if_false, ↓reduceIte, ne_eq, Int.reduceEq, Int.reduceLT, Int.reduceLE, Int.reduceAdd, Int.reduceSub, Int.reduceMul, Int.reduceToNat, Nat.reduceMul, Nat.reduceLeDiff, Nat.reduceLT, Nat.reduceSub, WB, mod2, div2, mul2, xor_i64', xor285']
      refine ⟨k + 1, ?_, ⟨by omega, hf⟩, by omega⟩
      rw [e1, e2, e3, if_pos hy, stepX, if_neg hx]
      simp
    · simp -dsimp (disch := omega) only [↓MC.wp, ↓opsWp, ↓drWp, ↓MOp.wp, evs, ev, eget, eput, eput?, pev, pbin, pint, pbool, pstr, psl, vnil, pbuild, overlay, ↓thenQ, ↓blockQ, ↓retQ, ↓resWp, tupV, stills, MOp.still, known, Op.operands, argEnv, ekeep, Nat.reduceAdd, reduceCtorEq, if_true, if_false, ↓reduceIte, ne_eq, Int.reduceEq, Int.reduceLT, Int.reduceLE, Int.reduceAdd, Int.reduceSub, Int.reduceMul, Int.reduceToNat, Nat.reduceMul, Nat.reduceLeDiff, Nat.reduceLT, Nat.reduceSub, WB, mod2, div2, mul2, xor_i64', xor285']
      refine ⟨k + 1, ?_, ⟨by omega, hf⟩, by omega⟩
      rw [e1, e2, e3, if_neg hy, stepX, if_pos hx]
      simp
    · simp -dsimp (disch := omega) only [↓MC.wp, ↓opsWp, ↓drWp, ↓MOp.wp, evs, ev, eget, eput, eput?, pev, pbin, pint, pbool, pstr, psl, vnil, pbuild, overlay, ↓thenQ, ↓blockQ, ↓retQ, ↓resWp, tupV, stills, MOp.still, known, Op.operands, argEnv, ekeep, Nat.reduceAdd, reduceCtorEq, if_true, if_false, ↓reduceIte, ne_eq, Int.reduceEq, Int.reduceLT, Int.reduceLE, Int.reduceAdd, Int.reduceSub, Int.reduceMul, Int.reduceToNat, Nat.reduceMul, Nat.reduceLeDiff, Nat.reduceLT, Nat.reduceSub, WB, mod2, div2, mul2, xor_i64', xor285']
      refine ⟨k + 1, ?_, ⟨by omega, hf⟩, by omega⟩
      rw [e1, e2, e3, if_neg hy, stepX, if_neg hx]
      simp
  · simp -dsimp (disch := omega) only [↓MC.wp, ↓opsWp, ↓drWp, ↓MOp.wp, evs, ev, eget, eput, eput?, pev, pbin, pint, pbool, pstr, psl, vnil, pbuild, overlay, ↓thenQ, ↓blockQ, ↓retQ, ↓resWp, tupV, stills, MOp.still, known, Op.operands, argEnv, ekeep, Nat.reduceAdd, reduceCtorEq, if_true, if_false, ↓reduceIte, ne_eq, Int.reduceEq, Int.reduceLT, Int.reduceLE, Int.reduceAdd, Int.reduceSub, Int.reduceMul, Int.reduceToNat, Nat.reduceMul, Nat.reduceLeDiff, Nat.reduceLT, Nat.reduceSub, WB, conv_u8']
    have : k = 8 := by omega
    subst this
    exact ⟨rfl, hf⟩

def rinv (a : UInt8) : UInt8 := match (List.range 256).find? (fun b => decide (1 ≤ b) && (rmul a (UInt8.ofNat b) == 1)) with
  | some b => UInt8.ofNat b
  | none => 0
theorem rinv_calls {w : World} (a : UInt8) : Calls Try.prog f_ref03_Inv #[U8 a] w fun en w' => ∃ r, en = .returned r ∧ (r = U8 (rinv a) ∧ Fr No w w') := by
  refine calls_of_mf (args := [U8 a]) c_ref03_Inv (by simp only [m_ref03_Inv, List.length]; decide) ?_
  have ha := a.toNat_lt
  simp -dsimp (disch := omega) only [↓MC.wp, ↓opsWp, ↓drWp, ↓MOp.wp, evs, ev, eget, eput, eput?, pev, pbin, pint, pbool, pstr, psl, vnil, pbuild, overlay, ↓thenQ, ↓blockQ, ↓retQ, ↓resWp, tupV, stills, MOp.still, known, Op.operands, argEnv, ekeep, Nat.reduceAdd, reduceCtorEq, if_true, if_false, ↓reduceIte, ne_eq, Int.reduceEq, Int.reduceLT, Int.reduceLE, Int.reduceAdd, Int.reduceSub, Int.reduceMul, Int.reduceToNat, Nat.reduceMul, Nat.reduceLeDiff, Nat.reduceLT, Nat.reduceSub, WB, m_ref03_Inv, U8]
  refine loopS [0, 3] (fun k : Nat => [(0, U8 a), (3, .int .i64 k)])
    (fun k w1 => 1 ≤ k ∧ k ≤ 256 ∧ (∀ j, 1 ≤ j → j < k → rmul a (UInt8.ofNat j) ≠ 1) ∧ Fr No w w1) (fun k _ => 256 - k) 1 (by with_unfolding_all rfl) ⟨by omega, by omega, fun j h1 h2 => by omega, Fr.refl _ _⟩ ?_
  rintro k w1 ⟨h1, h2, hz, hf⟩
  by_cases hlt : k < 256
  · simp -dsimp (disch := omega) only [↓MC.wp, ↓opsWp, ↓drWp, ↓MOp.wp, evs, ev, eget, eput, eput?, pev, pbin, pint, pbool, pstr, psl, vnil, pbuild, overlay, ↓thenQ, ↓blockQ, ↓retQ, ↓resWp, tupV, stills, MOp.still, known, Op.operands, argEnv, ekeep, Nat.reduceAdd, reduceCtorEq, if_true, if_false, ↓reduceIte, ne_eq, Int.reduceEq, Int.reduceLT, Int.reduceLE, Int.reduceAdd, Int.reduceSub, Int.reduceMul, Int.reduceToNat, Nat.reduceMul, Nat.reduceLeDiff, Nat.reduceLT, Nat.reduceSub, WB, conv_u8']
    refine call (rmul_calls a (UInt8.ofNat k)) ?_
    intro r w2 h
    rw [h.1]
    have hf2 := h.2
    have hm := (rmul a (UInt8.ofNat k)).toNat_lt
    by_cases he : (rmul a (UInt8.ofNat k)).toNat = 1
    · simp -dsimp (disch := omega) only [↓MC.wp, ↓opsWp, ↓drWp, ↓MOp.wp, evs, ev, eget, eput, eput?, pev, pbin, pint, pbool, pstr, psl, vnil, pbuild, overlay, ↓thenQ, ↓blockQ, ↓retQ, ↓resWp, tupV, stills, MOp.still, known, Op.operands, argEnv, ekeep, Nat.reduceAdd, reduceCtorEq, if_true, if_false, ↓reduceIte, ne_eq, Int.reduceEq, Int.reduceLT, Int.reduceLE, Int.reduceAdd, Int.reduceSub, Int.reduceMul, Int.reduceToNat, Nat.reduceMul, Nat.reduceLeDiff, Nat.reduceLT, Nat.reduceSub, WB, conv_u8', U8]
      refine ⟨?_, hf.then hf2⟩
      have he' : rmul a (UInt8.ofNat k) = 1 := UInt8.toNat_inj.1 he
      have : (List.range 256).find? (fun b => decide (1 ≤ b) && (rmul a (UInt8.ofNat b) == 1)) = some k := by
        rw [List.find?_eq_some_iff_getElem]
        refine ⟨by simp [h1, he'], k, by simpa using hlt, by simp, fun j hj => ?_⟩
        simp only [List.getElem_range]
        by_cases h : 1 ≤ j
        · simp [h, hz j h hj]
        · simp [h]
      rw [rinv, this]
    · simp -dsimp (disch := omega) only [↓MC.wp, ↓opsWp, ↓drWp, ↓MOp.wp, evs, ev, eget, eput, eput?, pev, pbin, pint, pbool, pstr, psl, vnil, pbuild, overlay, ↓thenQ, ↓blockQ, ↓retQ, ↓resWp, tupV, stills, MOp.still, known, Op.operands, argEnv, ekeep, Nat.reduceAdd, reduceCtorEq, if_true, if_false, ↓reduceIte, ne_eq, Int.reduceEq, Int.reduceLT, Int.reduceLE, Int.reduceAdd, Int.reduceSub, Int.reduceMul, Int.reduceToNat, Nat.reduceMul, Nat.reduceLeDiff, Nat.reduceLT, Nat.reduceSub, WB, conv_u8', U8]
      refine ⟨k + 1, rfl, ⟨by omega, by omega, fun j h3 h4 => ?_, hf.then hf2⟩, by omega⟩
      by_cases hj : j < k
      · exact hz j h3 hj
      · have : j = k := by omega
        subst this
        exact fun e => he (by rw [e]; rfl)
  · simp -dsimp (disch := omega) only [↓MC.wp, ↓opsWp, ↓drWp, ↓MOp.wp, evs, ev, eget, eput, eput?, pev, pbin, pint, pbool, pstr, psl, vnil, pbuild, overlay, ↓thenQ, ↓blockQ, ↓retQ, ↓resWp, tupV, stills, MOp.still, known, Op.operands, argEnv, ekeep, Nat.reduceAdd, reduceCtorEq, if_true, if_false, ↓reduceIte, ne_eq, Int.reduceEq, Int.reduceLT, Int.reduceLE, Int.reduceAdd, Int.reduceSub, Int.reduceMul, Int.reduceToNat, Nat.reduceMul, Nat.reduceLeDiff, Nat.reduceLT, Nat.reduceSub, WB]
    refine ⟨?_, hf⟩
    have : (List.range 256).find? (fun b => decide (1 ≤ b) && (rmul a (UInt8.ofNat b) == 1)) = none := by
      rw [List.find?_eq_none]
      intro j hj
      rw [List.mem_range] at hj
      by_cases h : 1 ≤ j
      · simp [hz j h (by omega)]
      · simp [h]
    rw [rinv, this]
    rfl
end Go.Proofs.Ytgpkbldlkadnjaa
end
section
/- Walks: Right, Few, Same. -/
set_option linter.unusedVariables false
set_option linter.unusedSimpArgs false
set_option maxHeartbeats 3000000
attribute [local irreducible] Go.Sl.Chk Go.Sl.Br Go.Sl.Ld Go.Sl.Ldn Go.Sl.LdB Go.Sl.Stn Go.Sl.New Go.Sl.Run Go.Sl.RunU Go.Sl.RunX Go.Sl.Call Go.Sl.LoopK Go.Sl.RawK Go.Sl.ev Go.Sl.eget
namespace Go.Proofs.Ytgpkbldlkadnjaa
open Go Go.Sl Go.RowKit

def evenB (m : LL) : Bool := m.all fun x => x.length == width m
def rightB (m : LL) : Bool := decide (0 < m.length) && (decide (0 < width m) && evenB m)
def fewB (m : LL) (most : Nat) : Bool := decide (m.length ≤ most) && (rightB m && decide (width m ≤ most))
theorem width_eq {m : LL} (h : 0 < m.length) : m[0].length = width m := by rw [width, getD_of_lt [] h]

/-- a row of a matrix that is read, opened -/
theorem MS.row {w : World} {B n c : Nat} {A : Option Addr} {m : LL} (h : MS w B (.slice A n c) m) {j : Nat} (hj : j < m.length) : ∃ ad A' c', A = some ad ∧ w.cell? (ad.add j) = some (.slice A' m[j].length c') ∧ BS w B (.slice A' m[j].length c') m[j] := by
  obtain ⟨A1, c1, e, hc, hr⟩ := h.open
  cases e
  obtain ⟨ad, u, e1, hb, hcell, hrow⟩ := hr j hj
  obtain ⟨A2, c2, rfl, _⟩ := hrow.open
  exact ⟨ad, A2, c2, e1, hcell, hrow⟩
theorem MS.form {w : World} {B : Nat} {v : Value} {m : LL} (h : MS w B v m) : ∃ A c, v = .slice A m.length c := by
  obtain ⟨A1, c1, e, _⟩ := h.open
  exact ⟨A1, c1, e⟩

theorem wide_calls {w : World} {B bb n c : Nat} {A A' : Option Addr} {m : LL} {k c' : Nat} (hm : MS w B (.slice A n c) m) (hp : 0 < m.length) (hbox : w.cell? ⟨bb, 0, none⟩ = some (.slice A n c)) :
    Calls Try.prog f_matrix_Right_1 #[.slice A' k c', .pointer (some ⟨bb, 0, none⟩)] w fun en w' => ∃ r, en = .returned r ∧ (r = .bool (!decide ((k : Int) = (width m : Nat))) ∧ Fr No w w') := by
  obtain ⟨A1, c1, e, _⟩ := hm.open
  cases e
  obtain ⟨ad, A2, c2, rfl, hcell, _⟩ := MS.row hm hp
  rw [width_eq hp] at hcell
  refine calls_of_mf (args := [.slice A' k c', .pointer (some ⟨bb, 0, none⟩)]) c_matrix_Right_1 (by simp only [m_matrix_Right_1, List.length]; decide) ?_
  simp -dsimp (disch := omega) only [↓MC.wp, ↓opsWp, ↓drWp, ↓MOp.wp, evs, ev, eget, eput, eput?, pev, pbin, pint, pbool, pstr, psl, vnil, pbuild, overlay, ↓thenQ, ↓blockQ, ↓retQ, ↓resWp, tupV, stills, MOp.still, known, Op.operands, argEnv, ekeep, Nat.reduceAdd, reduceCtorEq, if_true, if_false, ↓reduceIte, ne_eq, Int.reduceEq, Int.reduceLT, Int.reduceLE, Int.reduceAdd, Int.reduceSub, Int.reduceMul, Int.reduceToNat, Nat.reduceMul, Nat.reduceLeDiff, Nat.reduceLT, Nat.reduceSub, WB, m_matrix_Right_1, hbox, hcell]
  exact Fr.refl _ _
theorem index_calls {w : World} {B bb : Nat} {v : Value} {m : LL} (hm : MS w B v m) (hp : 0 < m.length) (hl : m.length ≤ 1000000) (hbox : w.cell? ⟨bb, 0, none⟩ = some v) :
    Calls Try.prog f_slices_IndexFunc #[v, .func (.func f_matrix_Right_1) #[] #[.pointer (some ⟨bb, 0, none⟩)]] w fun en w' => ∃ r, en = .returned r ∧ ∃ i : Int, r = .int .i64 i ∧ decide (0 ≤ i) = (!evenB m) ∧ Fr No w w' := by
  obtain ⟨A, c, rfl⟩ := MS.form hm
  refine calls_of_mf (args := [.slice A m.length c, .func (.func f_matrix_Right_1) #[] #[.pointer (some ⟨bb, 0, none⟩)]]) c_slices_IndexFunc (by simp only [m_slices_IndexFunc, List.length]; decide) ?_
  simp -dsimp (disch := omega) only [↓MC.wp, ↓opsWp, ↓drWp, ↓MOp.wp, evs, ev, eget, eput, eput?, pev, pbin, pint, pbool, pstr, psl, vnil, pbuild, overlay, ↓thenQ, ↓blockQ, ↓retQ, ↓resWp, tupV, stills, MOp.still, known, Op.operands, argEnv, ekeep, Nat.reduceAdd, reduceCtorEq, if_true, if_false, ↓reduceIte, ne_eq, Int.reduceEq, Int.reduceLT, Int.reduceLE, Int.reduceAdd, Int.reduceSub, Int.reduceMul, Int.reduceToNat, Nat.reduceMul, Nat.reduceLeDiff, Nat.reduceLT, Nat.reduceSub, WB, m_slices_IndexFunc]
  refine loopS [0, 1, 6, 7, 8] (fun k : Nat => [(0, .slice A m.length c), (1, .func (.func f_matrix_Right_1) #[] #[.pointer (some ⟨bb, 0, none⟩)]), (6, .slice A m.length c), (7, .int .i64 m.length), (8, .int .i64 k)])
    (fun k w1 => k ≤ m.length ∧ (m.take k).all (fun x => x.length == width m) = true ∧ Fr No w w1) (fun k _ => m.length - k) 0 (by with_unfolding_all rfl) ⟨Nat.zero_le _, rfl, Fr.refl _ _⟩ ?_
  rintro k w1 ⟨hk, hz, hf⟩
  by_cases hlt : k < m.length
  · obtain ⟨ad, A2, c2, rfl, hcell, _⟩ := MS.row hm hlt
    have hcell1 : w1.cell? (ad.add k) = some (.slice A2 m[k].length c2) := by rw [hf.cell (cell_block_lt hcell) (fun h => h)]; exact hcell
    have hbox1 : w1.cell? ⟨bb, 0, none⟩ = some (.slice (some ad) m.length c) := by rw [hf.cell (cell_block_lt hbox) (fun h => h)]; exact hbox
    have hm1 : MS w1 B (.slice (some ad) m.length c) m := hm.fr hf fun _ _ h => h
    simp -dsimp (disch := omega) only [↓MC.wp, ↓opsWp, ↓drWp, ↓MOp.wp, evs, ev, eget, eput, eput?, pev, pbin, pint, pbool, pstr, psl, vnil, pbuild, overlay, ↓thenQ, ↓blockQ, ↓retQ, ↓resWp, tupV, stills, MOp.still, known, Op.operands, argEnv, ekeep, Nat.reduceAdd, reduceCtorEq, if_true, if_false, ↓reduceIte, ne_eq, Int.reduceEq, Int.reduceLT, Int.reduceLE, Int.reduceAdd, Int.reduceSub, Int.reduceMul, Int.reduceToNat, Nat.reduceMul, Nat.reduceLeDiff, Nat.reduceLT, Nat.reduceSub, WB, hcell1, hb43]
    refine call (wide_calls (A' := A2) (k := m[k].length) (c' := c2) hm1 hp hbox1) ?_
    intro r w2 h
    rw [h.1]
    simp -dsimp (disch := omega) only [↓MC.wp, ↓opsWp, ↓drWp, ↓MOp.wp, evs, ev, eget, eput, eput?, pev, pbin, pint, pbool, pstr, psl, vnil, pbuild, overlay, ↓thenQ, ↓blockQ, ↓retQ, ↓resWp, tupV, stills, MOp.still, known, Op.operands, argEnv, ekeep, Nat.reduceAdd, reduceCtorEq, if_true, if_false, ↓reduceIte, ne_eq, Int.reduceEq, Int.reduceLT, Int.reduceLE, Int.reduceAdd, Int.reduceSub, Int.reduceMul, Int.reduceToNat, Nat.reduceMul, Nat.reduceLeDiff, Nat.reduceLT, Nat.reduceSub, WB]
    have hf2 := h.2
    refine brn ?_ ?_
    · intro hne
      simp -dsimp (disch := omega) only [↓MC.wp, ↓opsWp, ↓drWp, ↓MOp.wp, evs, ev, eget, eput, eput?, pev, pbin, pint, pbool, pstr, psl, vnil, pbuild, overlay, ↓thenQ, ↓blockQ, ↓retQ, ↓resWp, tupV, stills, MOp.still, known, Op.operands, argEnv, ekeep, Nat.reduceAdd, reduceCtorEq, if_true, if_false, ↓reduceIte, ne_eq, Int.reduceEq, Int.reduceLT, Int.reduceLE, Int.reduceAdd, Int.reduceSub, Int.reduceMul, Int.reduceToNat, Nat.reduceMul, Nat.reduceLeDiff, Nat.reduceLT, Nat.reduceSub, WB]
      refine ⟨(k : Int), rfl, ?_, hf.then hf2⟩
      have : evenB m = false := by
        rw [evenB, List.all_eq_false]
        exact ⟨m[k], List.getElem_mem hlt, by simp; omega⟩
      rw [this]
      simp
    · intro he
      simp -dsimp (disch := omega) only [↓MC.wp, ↓opsWp, ↓drWp, ↓MOp.wp, evs, ev, eget, eput, eput?, pev, pbin, pint, pbool, pstr, psl, vnil, pbuild, overlay, ↓thenQ, ↓blockQ, ↓retQ, ↓resWp, tupV, stills, MOp.still, known, Op.operands, argEnv, ekeep, Nat.reduceAdd, reduceCtorEq, if_true, if_false, ↓reduceIte, ne_eq, Int.reduceEq, Int.reduceLT, Int.reduceLE, Int.reduceAdd, Int.reduceSub, Int.reduceMul, Int.reduceToNat, Nat.reduceMul, Nat.reduceLeDiff, Nat.reduceLT, Nat.reduceSub, WB]
      refine ⟨k + 1, rfl, ⟨by omega, ?_, hf.then hf2⟩, by omega⟩
      rw [take_succ' hlt, List.all_append, hz]
      simp
      omega
  · simp -dsimp (disch := omega) only [↓MC.wp, ↓opsWp, ↓drWp, ↓MOp.wp, evs, ev, eget, eput, eput?, pev, pbin, pint, pbool, pstr, psl, vnil, pbuild, overlay, ↓thenQ, ↓blockQ, ↓retQ, ↓resWp, tupV, stills, MOp.still, known, Op.operands, argEnv, ekeep, Nat.reduceAdd, reduceCtorEq, if_true, if_false, ↓reduceIte, ne_eq, Int.reduceEq, Int.reduceLT, Int.reduceLE, Int.reduceAdd, Int.reduceSub, Int.reduceMul, Int.reduceToNat, Nat.reduceMul, Nat.reduceLeDiff, Nat.reduceLT, Nat.reduceSub, WB]
    have : k = m.length := by omega
    subst this
    rw [List.take_length] at hz
    refine ⟨-1, rfl, ?_, hf⟩
    rw [evenB, hz]
    rfl
theorem contains_calls {w : World} {B bb : Nat} {v : Value} {m : LL} (hm : MS w B v m) (hp : 0 < m.length) (hl : m.length ≤ 1000000) (hbox : w.cell? ⟨bb, 0, none⟩ = some v) :
    Calls Try.prog f_slices_ContainsFunc #[v, .func (.func f_matrix_Right_1) #[] #[.pointer (some ⟨bb, 0, none⟩)]] w fun en w' => ∃ r, en = .returned r ∧ (r = .bool (!evenB m) ∧ Fr No w w') := by
  refine calls_of_mf (args := [v, .func (.func f_matrix_Right_1) #[] #[.pointer (some ⟨bb, 0, none⟩)]]) c_slices_ContainsFunc (by simp only [m_slices_ContainsFunc, List.length]; decide) ?_
  simp -dsimp (disch := omega) only [↓MC.wp, ↓opsWp, ↓drWp, ↓MOp.wp, evs, ev, eget, eput, eput?, pev, pbin, pint, pbool, pstr, psl, vnil, pbuild, overlay, ↓thenQ, ↓blockQ, ↓retQ, ↓resWp, tupV, stills, MOp.still, known, Op.operands, argEnv, ekeep, Nat.reduceAdd, reduceCtorEq, if_true, if_false, ↓reduceIte, ne_eq, Int.reduceEq, Int.reduceLT, Int.reduceLE, Int.reduceAdd, Int.reduceSub, Int.reduceMul, Int.reduceToNat, Nat.reduceMul, Nat.reduceLeDiff, Nat.reduceLT, Nat.reduceSub, WB, m_slices_ContainsFunc]
  refine call (index_calls hm hp hl hbox) ?_
  intro r w1 h
  obtain ⟨i, hr, hi, hf⟩ := h
  rw [hr]
  simp -dsimp (disch := omega) only [↓MC.wp, ↓opsWp, ↓drWp, ↓MOp.wp, evs, ev, eget, eput, eput?, pev, pbin, pint, pbool, pstr, psl, vnil, pbuild, overlay, ↓thenQ, ↓blockQ, ↓retQ, ↓resWp, tupV, stills, MOp.still, known, Op.operands, argEnv, ekeep, Nat.reduceAdd, reduceCtorEq, if_true, if_false, ↓reduceIte, ne_eq, Int.reduceEq, Int.reduceLT, Int.reduceLE, Int.reduceAdd, Int.reduceSub, Int.reduceMul, Int.reduceToNat, Nat.reduceMul, Nat.reduceLeDiff, Nat.reduceLT, Nat.reduceSub, WB]
  exact ⟨by rw [hi], hf⟩
theorem right_calls {w : World} {B : Nat} {v : Value} {m : LL} (hm : MS w B v m) (hB : B ≤ w.heap.size) (hl : m.length ≤ 1000000) :
    Calls Try.prog f_matrix_Right #[v] w fun en w' => ∃ r, en = .returned r ∧ (r = .bool (rightB m) ∧ Fr No w w') := by
  obtain ⟨A, c, rfl⟩ := MS.form hm
  refine calls_of_mf (args := [.slice A m.length c]) c_matrix_Right (by simp only [m_matrix_Right, List.length]; decide) ?_
  simp -dsimp (disch := omega) only [↓MC.wp, ↓opsWp, ↓drWp, ↓MOp.wp, evs, ev, eget, eput, eput?, pev, pbin, pint, pbool, pstr, psl, vnil, pbuild, overlay, ↓thenQ, ↓blockQ, ↓retQ, ↓resWp, tupV, stills, MOp.still, known, Op.operands, argEnv, ekeep, Nat.reduceAdd, reduceCtorEq, if_true, if_false, ↓reduceIte, ne_eq, Int.reduceEq, Int.reduceLT, Int.reduceLE, Int.reduceAdd, Int.reduceSub, Int.reduceMul, Int.reduceToNat, Nat.reduceMul, Nat.reduceLeDiff, Nat.reduceLT, Nat.reduceSub, WB, m_matrix_Right]
  refine new ?_
  intro b w1 hb hs hc hf
  have hbox : w1.cell? ⟨b, 0, none⟩ = some (.slice A m.length c) := by simp [World.cell?, hc]
  simp -dsimp (disch := omega) only [↓MC.wp, ↓opsWp, ↓drWp, ↓MOp.wp, evs, ev, eget, eput, eput?, pev, pbin, pint, pbool, pstr, psl, vnil, pbuild, overlay, ↓thenQ, ↓blockQ, ↓retQ, ↓resWp, tupV, stills, MOp.still, known, Op.operands, argEnv, ekeep, Nat.reduceAdd, reduceCtorEq, if_true, if_false, ↓reduceIte, ne_eq, Int.reduceEq, Int.reduceLT, Int.reduceLE, Int.reduceAdd, Int.reduceSub, Int.reduceMul, Int.reduceToNat, Nat.reduceMul, Nat.reduceLeDiff, Nat.reduceLT, Nat.reduceSub, WB, hbox]
  by_cases h0 : m.length = 0
  · simp -dsimp (disch := omega) only [↓MC.wp, ↓opsWp, ↓drWp, ↓MOp.wp, evs, ev, eget, eput, eput?, pev, pbin, pint, pbool, pstr, psl, vnil, pbuild, overlay, ↓thenQ, ↓blockQ, ↓retQ, ↓resWp, tupV, stills, MOp.still, known, Op.operands, argEnv, ekeep, Nat.reduceAdd, reduceCtorEq, if_true, if_false, ↓reduceIte, ne_eq, Int.reduceEq, Int.reduceLT, Int.reduceLE, Int.reduceAdd, Int.reduceSub, Int.reduceMul, Int.reduceToNat, Nat.reduceMul, Nat.reduceLeDiff, Nat.reduceLT, Nat.reduceSub, WB]
    rw [rightB]
    simp [h0]
    exact hf
  · have hp : 0 < m.length := by omega
    obtain ⟨ad, A2, c2, rfl, hcell, _⟩ := MS.row hm hp
    rw [width_eq hp] at hcell
    have hcell1 : w1.cell? (ad.add 0) = some (.slice A2 (width m) c2) := by rw [hf.cell (cell_block_lt hcell) (fun h => h)]; exact hcell
    by_cases h1 : width m = 0
    · simp -dsimp (disch := omega) only [↓MC.wp, ↓opsWp, ↓drWp, ↓MOp.wp, evs, ev, eget, eput, eput?, pev, pbin, pint, pbool, pstr, psl, vnil, pbuild, overlay, ↓thenQ, ↓blockQ, ↓retQ, ↓resWp, tupV, stills, MOp.still, known, Op.operands, argEnv, ekeep, Nat.reduceAdd, reduceCtorEq, if_true, if_false, ↓reduceIte, ne_eq, Int.reduceEq, Int.reduceLT, Int.reduceLE, Int.reduceAdd, Int.reduceSub, Int.reduceMul, Int.reduceToNat, Nat.reduceMul, Nat.reduceLeDiff, Nat.reduceLT, Nat.reduceSub, WB, hbox, hcell1]
      rw [rightB]
      simp [h1]
      exact hf
    · simp -dsimp (disch := omega) only [↓MC.wp, ↓opsWp, ↓drWp, ↓MOp.wp, evs, ev, eget, eput, eput?, pev, pbin, pint, pbool, pstr, psl, vnil, pbuild, overlay, ↓thenQ, ↓blockQ, ↓retQ, ↓resWp, tupV, stills, MOp.still, known, Op.operands, argEnv, ekeep, Nat.reduceAdd, reduceCtorEq, if_true, if_false, ↓reduceIte, ne_eq, Int.reduceEq, Int.reduceLT, Int.reduceLE, Int.reduceAdd, Int.reduceSub, Int.reduceMul, Int.reduceToNat, Nat.reduceMul, Nat.reduceLeDiff, Nat.reduceLT, Nat.reduceSub, WB, hbox, hcell1]
      have hm1 : MS w1 B (.slice (some ad) m.length c) m := hm.fr hf fun _ _ h => h
      refine call (contains_calls hm1 hp hl hbox) ?_
      intro r w2 h
      rw [h.1]
      simp -dsimp (disch := omega) only [↓MC.wp, ↓opsWp, ↓drWp, ↓MOp.wp, evs, ev, eget, eput, eput?, pev, pbin, pint, pbool, pstr, psl, vnil, pbuild, overlay, ↓thenQ, ↓blockQ, ↓retQ, ↓resWp, tupV, stills, MOp.still, known, Op.operands, argEnv, ekeep, Nat.reduceAdd, reduceCtorEq, if_true, if_false, ↓reduceIte, ne_eq, Int.reduceEq, Int.reduceLT, Int.reduceLE, Int.reduceAdd, Int.reduceSub, Int.reduceMul, Int.reduceToNat, Nat.reduceMul, Nat.reduceLeDiff, Nat.reduceLT, Nat.reduceSub, WB]
      refine ⟨?_, hf.then h.2⟩
      rw [rightB]
      have h1' : 0 < width m := by omega
      simp [hp, h1']
end Go.Proofs.Ytgpkbldlkadnjaa
end
section
/- Walks: the reference's Right, Few, Same. -/
set_option linter.unusedVariables false
set_option linter.unusedSimpArgs false
set_option maxHeartbeats 3000000
attribute [local irreducible] Go.Sl.Chk Go.Sl.Br Go.Sl.Ld Go.Sl.Ldn Go.Sl.LdB Go.Sl.Stn Go.Sl.New Go.Sl.Run Go.Sl.RunU Go.Sl.RunX Go.Sl.Call Go.Sl.LoopK Go.Sl.RawK Go.Sl.ev Go.Sl.eget
namespace Go.Proofs.Ytgpkbldlkadnjaa
open Go Go.Sl Go.RowKit

theorem MS.drew {w : World} {B : Nat} {v : Value} {m : LL} (h : MS w B v m) : MS w.drew B v m := h
theorem rightM_of {m : LL} (h : rightB m = true) : RightM m := by
  rw [rightB, Bool.and_eq_true, Bool.and_eq_true] at h
  refine ⟨by simpa using h.1, by simpa using h.2.1, fun x hx => ?_⟩
  have := List.all_eq_true.1 h.2.2 x hx
  simpa using this
theorem same_calls {w : World} {B B' : Nat} {v v' : Value} {a b : LL} (ha : MS w B v a) (hb : MS w B' v' b) (hl : a.length ≤ 1000000) :
    Calls Try.prog f_ref04_Same #[v, v'] w fun en w' => ∃ r, en = .returned r ∧ (r = .bool (decide (a = b)) ∧ Fr No w w') := by
  obtain ⟨A, c, rfl⟩ := MS.form ha
  obtain ⟨A', c', rfl⟩ := MS.form hb
  refine calls_of_mf (args := [.slice A a.length c, .slice A' b.length c']) c_ref04_Same (by simp only [m_ref04_Same, List.length]; decide) ?_
  by_cases h0 : a.length = b.length
  · simp -dsimp (disch := omega) only [↓MC.wp, ↓opsWp, ↓drWp, ↓MOp.wp, evs, ev, eget, eput, eput?, pev, pbin, pint, pbool, pstr, psl, vnil, pbuild, overlay, ↓thenQ, ↓blockQ, ↓retQ, ↓resWp, tupV, stills, MOp.still, known, Op.operands, argEnv, ekeep, Nat.reduceAdd, reduceCtorEq, if_true, if_false, ↓reduceIte, ne_eq, Int.reduceEq, Int.reduceLT, Int.reduceLE, Int.reduceAdd, Int.reduceSub, Int.reduceMul, Int.reduceToNat, Nat.reduceMul, Nat.reduceLeDiff, Nat.reduceLT, Nat.reduceSub, WB, m_ref04_Same]
    refine loopS [0, 1, 5] (fun k : Nat => [(0, .slice A a.length c), (1, .slice A' b.length c'), (5, .int .i64 k)])
      (fun k w1 => k ≤ a.length ∧ (∀ j (h : j < k) (h' : j < a.length) (h'' : j < b.length), a[j] = b[j]) ∧ Fr No w w1) (fun k _ => a.length - k) 0 (by with_unfolding_all rfl) ⟨Nat.zero_le _, fun j h => by omega, Fr.refl _ _⟩ ?_
    rintro k w1 ⟨hk, hz, hf⟩
    by_cases hlt : k < a.length
    · obtain ⟨ad, A2, c2, rfl, hcell, hrow⟩ := MS.row ha hlt
      have hlt' : k < b.length := by omega
      obtain ⟨bd, A3, c3, rfl, hcell', hrow'⟩ := MS.row hb hlt'
      have hcell1 : w1.cell? (ad.add k) = some (.slice A2 a[k].length c2) := by rw [hf.cell (cell_block_lt hcell) (fun h => h)]; exact hcell
      have hcell2 : w1.cell? (bd.add k) = some (.slice A3 b[k].length c3) := by rw [hf.cell (cell_block_lt hcell') (fun h => h)]; exact hcell'
      have hr1 : BS w1.drew B (.slice A2 a[k].length c2) a[k] := BS.fr hrow hf.drew fun _ _ h => h
      have hr2 : BS w1.drew B' (.slice A3 b[k].length c3) b[k] := BS.fr hrow' hf.drew fun _ _ h => h
      simp -dsimp (disch := omega) only [↓MC.wp, ↓opsWp, ↓drWp, ↓MOp.wp, evs, ev, eget, eput, eput?, pev, pbin, pint, pbool, pstr, psl, vnil, pbuild, overlay, ↓thenQ, ↓blockQ, ↓retQ, ↓resWp, tupV, stills, MOp.still, known, Op.operands, argEnv, ekeep, Nat.reduceAdd, reduceCtorEq, if_true, if_false, ↓reduceIte, ne_eq, Int.reduceEq, Int.reduceLT, Int.reduceLE, Int.reduceAdd, Int.reduceSub, Int.reduceMul, Int.reduceToNat, Nat.reduceMul, Nat.reduceLeDiff, Nat.reduceLT, Nat.reduceSub, WB, hcell1]
      refine ldb hr1 ?_
      simp -dsimp (disch := omega) only [↓MC.wp, ↓opsWp, ↓drWp, ↓MOp.wp, evs, ev, eget, eput, eput?, pev, pbin, pint, pbool, pstr, psl, vnil, pbuild, overlay, ↓thenQ, ↓blockQ, ↓retQ, ↓resWp, tupV, stills, MOp.still, known, Op.operands, argEnv, ekeep, Nat.reduceAdd, reduceCtorEq, if_true, if_false, ↓reduceIte, ne_eq, Int.reduceEq, Int.reduceLT, Int.reduceLE, Int.reduceAdd, Int.reduceSub, Int.reduceMul, Int.reduceToNat, Nat.reduceMul, Nat.reduceLeDiff, Nat.reduceLT, Nat.reduceSub, WB, hcell2]
      refine ldb hr2 ?_
      simp -dsimp (disch := omega) only [↓MC.wp, ↓opsWp, ↓drWp, ↓MOp.wp, evs, ev, eget, eput, eput?, pev, pbin, pint, pbool, pstr, psl, vnil, pbuild, overlay, ↓thenQ, ↓blockQ, ↓retQ, ↓resWp, tupV, stills, MOp.still, known, Op.operands, argEnv, ekeep, Nat.reduceAdd, reduceCtorEq, if_true, if_false, ↓reduceIte, ne_eq, Int.reduceEq, Int.reduceLT, Int.reduceLE, Int.reduceAdd, Int.reduceSub, Int.reduceMul, Int.reduceToNat, Nat.reduceMul, Nat.reduceLeDiff, Nat.reduceLT, Nat.reduceSub, WB, ba_eq]
      refine brn ?_ ?_
      · intro hne
        simp -dsimp (disch := omega) only [↓MC.wp, ↓opsWp, ↓drWp, ↓MOp.wp, evs, ev, eget, eput, eput?, pev, pbin, pint, pbool, pstr, psl, vnil, pbuild, overlay, ↓thenQ, ↓blockQ, ↓retQ, ↓resWp, tupV, stills, MOp.still, known, Op.operands, argEnv, ekeep, Nat.reduceAdd, reduceCtorEq, if_true, if_false, ↓reduceIte, ne_eq, Int.reduceEq, Int.reduceLT, Int.reduceLE, Int.reduceAdd, Int.reduceSub, Int.reduceMul, Int.reduceToNat, Nat.reduceMul, Nat.reduceLeDiff, Nat.reduceLT, Nat.reduceSub, WB]
        refine ⟨?_, hf.drew⟩
        have : a ≠ b := fun e => by subst e; exact hne rfl
        simp [this]
      · intro he
        simp -dsimp (disch := omega) only [↓MC.wp, ↓opsWp, ↓drWp, ↓MOp.wp, evs, ev, eget, eput, eput?, pev, pbin, pint, pbool, pstr, psl, vnil, pbuild, overlay, ↓thenQ, ↓blockQ, ↓retQ, ↓resWp, tupV, stills, MOp.still, known, Op.operands, argEnv, ekeep, Nat.reduceAdd, reduceCtorEq, if_true, if_false, ↓reduceIte, ne_eq, Int.reduceEq, Int.reduceLT, Int.reduceLE, Int.reduceAdd, Int.reduceSub, Int.reduceMul, Int.reduceToNat, Nat.reduceMul, Nat.reduceLeDiff, Nat.reduceLT, Nat.reduceSub, WB]
        refine ⟨k + 1, rfl, ⟨by omega, fun j h h' h'' => ?_, hf.drew⟩, by omega⟩
        by_cases hj : j < k
        · exact hz j hj h' h''
        · have : j = k := by omega
          subst this
          exact he
    · simp -dsimp (disch := omega) only [↓MC.wp, ↓opsWp, ↓drWp, ↓MOp.wp, evs, ev, eget, eput, eput?, pev, pbin, pint, pbool, pstr, psl, vnil, pbuild, overlay, ↓thenQ, ↓blockQ, ↓retQ, ↓resWp, tupV, stills, MOp.still, known, Op.operands, argEnv, ekeep, Nat.reduceAdd, reduceCtorEq, if_true, if_false, ↓reduceIte, ne_eq, Int.reduceEq, Int.reduceLT, Int.reduceLE, Int.reduceAdd, Int.reduceSub, Int.reduceMul, Int.reduceToNat, Nat.reduceMul, Nat.reduceLeDiff, Nat.reduceLT, Nat.reduceSub, WB]
      have : k = a.length := by omega
      subst this
      refine ⟨?_, hf⟩
      have : a = b := List.ext_getElem h0 fun j h1 h2 => hz j h1 h1 h2
      simp [this]
  · simp -dsimp (disch := omega) only [↓MC.wp, ↓opsWp, ↓drWp, ↓MOp.wp, evs, ev, eget, eput, eput?, pev, pbin, pint, pbool, pstr, psl, vnil, pbuild, overlay, ↓thenQ, ↓blockQ, ↓retQ, ↓resWp, tupV, stills, MOp.still, known, Op.operands, argEnv, ekeep, Nat.reduceAdd, reduceCtorEq, if_true, if_false, ↓reduceIte, ne_eq, Int.reduceEq, Int.reduceLT, Int.reduceLE, Int.reduceAdd, Int.reduceSub, Int.reduceMul, Int.reduceToNat, Nat.reduceMul, Nat.reduceLeDiff, Nat.reduceLT, Nat.reduceSub, WB, m_ref04_Same]
    refine ⟨?_, Fr.refl _ _⟩
    have : a ≠ b := fun e => h0 (by rw [e])
    simp [this]
end Go.Proofs.Ytgpkbldlkadnjaa
end
section
/- Walks: the reference's Coding, Mul. -/
set_option linter.unusedVariables false
set_option linter.unusedSimpArgs false
set_option maxHeartbeats 3000000
attribute [local irreducible] Go.Sl.Chk Go.Sl.Br Go.Sl.Ld Go.Sl.Ldn Go.Sl.LdB Go.Sl.Stn Go.Sl.New Go.Sl.Run Go.Sl.RunU Go.Sl.RunX Go.Sl.Call Go.Sl.LoopK Go.Sl.RawK Go.Sl.ev Go.Sl.eget
namespace Go.Proofs.Ytgpkbldlkadnjaa
open Go Go.Sl Go.RowKit

/-- a byte is appended to a new row -/
theorem push_byte {wb w : World} {o : Value} {xs : List UInt8} {x : UInt8} (ho : NewRow wb.heap.size w o xs) (hwb : Fr No wb w) (hl : xs.length ≤ 1000000) {b2 c : Nat} {w2 : World}
    (hc2 : w2.heap[b2]? = some (.cells #[U8 x] 5 (0, 0))) (hf2 : Fr No w w2) {K : Value → World → Prop} {tg : TagF K}
    (k : ∀ r' w', NewRow wb.heap.size w' r' (xs ++ [x]) → Fr No wb w' → K r' w') :
    Run Try.prog (Builtin.append_ #[29, 29] 29 #[o, .slice (some ⟨b2, 0, none⟩) 1 c]) w2 K tg := by
  have ho2 := Ow.no ho.1 hf2
  have hsz := hwb.size
  have hsz2 := hf2.size
  refine app elB ho2 (m := 1) (src_lit hc2 c) rfl ?_ (by omega) (by omega) fun v4 w4 ho4 hf4 hat => ?_
  · intro u hu; simp at hu; subst hu; rfl
  · refine k v4 w4 ⟨?_, ?_⟩ ((hwb.then hf2).own ho.2 hf4)
    · have e : (xs ++ [x]).length = xs.length + 1 := by simp
      rw [e, List.map_append]
      exact ho4
    · exact ho.2.app (by omega) hat
theorem NewRow.nil (B : Nat) (w : World) : NewRow B w (.slice none 0 0) [] := ⟨Ow.nil w 5 1, New'.nil _⟩

def rcodeAt (k i j : Nat) : UInt8 := if k ≤ i then rinv (UInt8.ofNat (i ^^^ j)) else if i = j then 1 else 0
def rcoding (k n : Nat) : LL := (List.range n).map fun i => (List.range k).map (rcodeAt k i)

theorem rcoding_calls {w : World} (k n : Nat) (hk : k ≤ 1000) (hn : n ≤ 1000) :
    Calls Try.prog f_ref04_Coding #[.int .i64 k, .int .i64 n] w fun en w' => ∃ r, en = .returned r ∧ (NewMat w.heap.size w' r (rcoding k n) ∧ Fr No w w') := by
  refine calls_of_mf (args := [.int .i64 k, .int .i64 n]) c_ref04_Coding (by simp only [m_ref04_Coding, List.length]; decide) ?_
  simp -dsimp (disch := omega) only [↓MC.wp, ↓opsWp, ↓drWp, ↓MOp.wp, evs, ev, eget, eput, eput?, pev, pbin, pint, pbool, pstr, psl, vnil, pbuild, overlay, ↓thenQ, ↓blockQ, ↓retQ, ↓resWp, tupV, stills, MOp.still, known, Op.operands, argEnv, ekeep, Nat.reduceAdd, reduceCtorEq, if_true, if_false, ↓reduceIte, ne_eq, Int.reduceEq, Int.reduceLT, Int.reduceLE, Int.reduceAdd, Int.reduceSub, Int.reduceMul, Int.reduceToNat, Nat.reduceMul, Nat.reduceLeDiff, Nat.reduceLT, Nat.reduceSub, WB, m_ref04_Coding]
  refine loopS [0, 1, 5, 6] (fun s : Nat × Value => [(0, .int .i64 k), (1, .int .i64 n), (5, s.2), (6, .int .i64 s.1)])
    (fun s w1 => s.1 ≤ n ∧ NewMat w.heap.size w1 s.2 ((List.range s.1).map fun i => (List.range k).map (rcodeAt k i)) ∧ Fr No w w1) (fun s _ => n - s.1) (0, .slice none 0 0) (by with_unfolding_all rfl) ⟨Nat.zero_le _, NewMat.nil _ _, Fr.refl _ _⟩ ?_
  rintro ⟨i, o⟩ w1 ⟨hi, ho, hf⟩
  dsimp only at hi ho ⊢
  by_cases hlt : i < n
  · simp -dsimp (disch := omega) only [↓MC.wp, ↓opsWp, ↓drWp, ↓MOp.wp, evs, ev, eget, eput, eput?, pev, pbin, pint, pbool, pstr, psl, vnil, pbuild, overlay, ↓thenQ, ↓blockQ, ↓retQ, ↓resWp, tupV, stills, MOp.still, known, Op.operands, argEnv, ekeep, Nat.reduceAdd, reduceCtorEq, if_true, if_false, ↓reduceIte, ne_eq, Int.reduceEq, Int.reduceLT, Int.reduceLE, Int.reduceAdd, Int.reduceSub, Int.reduceMul, Int.reduceToNat, Nat.reduceMul, Nat.reduceLeDiff, Nat.reduceLT, Nat.reduceSub, WB]
    refine loopS [0, 1, 5, 6, 7, 8] (fun s : Nat × Value => [(0, .int .i64 k), (1, .int .i64 n), (5, o), (6, .int .i64 i), (7, s.2), (8, .int .i64 s.1)])
      (fun s w3 => s.1 ≤ k ∧ NewRow w1.heap.size w3 s.2 ((List.range s.1).map (rcodeAt k i)) ∧ Fr No w1 w3) (fun s _ => k - s.1) (0, .slice none 0 0) (by with_unfolding_all rfl) ⟨Nat.zero_le _, NewRow.nil _ _, Fr.refl _ _⟩ ?_
    rintro ⟨j, row⟩ w3 ⟨hj, hrow, hf3⟩
    dsimp only at hj hrow ⊢
    by_cases hjl : j < k
    · have hlen : ((List.range j).map (rcodeAt k i)).length ≤ 1000000 := by rw [List.length_map, List.length_range]; omega
      have hnext : (List.range (j + 1)).map (rcodeAt k i) = (List.range j).map (rcodeAt k i) ++ [rcodeAt k i j] := by rw [List.range_succ, List.map_append]; rfl
      by_cases hik : k ≤ i
      · by_cases hij : i = j
        · omega
        · simp -dsimp (disch := omega) only [↓MC.wp, ↓opsWp, ↓drWp, ↓MOp.wp, evs, ev, eget, eput, eput?, pev, pbin, pint, pbool, pstr, psl, vnil, pbuild, overlay, ↓thenQ, ↓blockQ, ↓retQ, ↓resWp, tupV, stills, MOp.still, known, Op.operands, argEnv, ekeep, Nat.reduceAdd, reduceCtorEq, if_true, if_false, ↓reduceIte, ne_eq, Int.reduceEq, Int.reduceLT, Int.reduceLE, Int.reduceAdd, Int.reduceSub, Int.reduceMul, Int.reduceToNat, Nat.reduceMul, Nat.reduceLeDiff, Nat.reduceLT, Nat.reduceSub, WB, xor_i64', conv_u8']
          refine call (rinv_calls (UInt8.ofNat (i ^^^ j))) ?_
          intro r w4 h4
          rw [h4.1]
          have hf4 := h4.2
          simp -dsimp (disch := omega) only [↓MC.wp, ↓opsWp, ↓drWp, ↓MOp.wp, evs, ev, eget, eput, eput?, pev, pbin, pint, pbool, pstr, psl, vnil, pbuild, overlay, ↓thenQ, ↓blockQ, ↓retQ, ↓resWp, tupV, stills, MOp.still, known, Op.operands, argEnv, ekeep, Nat.reduceAdd, reduceCtorEq, if_true, if_false, ↓reduceIte, ne_eq, Int.reduceEq, Int.reduceLT, Int.reduceLE, Int.reduceAdd, Int.reduceSub, Int.reduceMul, Int.reduceToNat, Nat.reduceMul, Nat.reduceLeDiff, Nat.reduceLT, Nat.reduceSub, WB, U8, set_one]
          refine new ?_
          intro b2 w5 hb5 hs5 hc5 hf5
          simp -dsimp (disch := omega) only [↓MC.wp, ↓opsWp, ↓drWp, ↓MOp.wp, evs, ev, eget, eput, eput?, pev, pbin, pint, pbool, pstr, psl, vnil, pbuild, overlay, ↓thenQ, ↓blockQ, ↓retQ, ↓resWp, tupV, stills, MOp.still, known, Op.operands, argEnv, ekeep, Nat.reduceAdd, reduceCtorEq, if_true, if_false, ↓reduceIte, ne_eq, Int.reduceEq, Int.reduceLT, Int.reduceLE, Int.reduceAdd, Int.reduceSub, Int.reduceMul, Int.reduceToNat, Nat.reduceMul, Nat.reduceLeDiff, Nat.reduceLT, Nat.reduceSub, WB]
          refine push_byte (x := rinv (UInt8.ofNat (i ^^^ j))) (hrow.no hf4) (hf3.then hf4) hlen hc5 hf5 ?_
          intro r' w6 hr6 hf6
          simp -dsimp (disch := omega) only [↓MC.wp, ↓opsWp, ↓drWp, ↓MOp.wp, evs, ev, eget, eput, eput?, pev, pbin, pint, pbool, pstr, psl, vnil, pbuild, overlay, ↓thenQ, ↓blockQ, ↓retQ, ↓resWp, tupV, stills, MOp.still, known, Op.operands, argEnv, ekeep, Nat.reduceAdd, reduceCtorEq, if_true, if_false, ↓reduceIte, ne_eq, Int.reduceEq, Int.reduceLT, Int.reduceLE, Int.reduceAdd, Int.reduceSub, Int.reduceMul, Int.reduceToNat, Nat.reduceMul, Nat.reduceLeDiff, Nat.reduceLT, Nat.reduceSub, WB]
          refine ⟨(j + 1, r'), rfl, ⟨by dsimp only; omega, ?_, hf6⟩, by dsimp only; omega⟩
          dsimp only
          rw [hnext, show rcodeAt k i j = rinv (UInt8.ofNat (i ^^^ j)) from by rw [rcodeAt, if_pos hik]]
          exact hr6
      · by_cases hij : i = j
        · simp -dsimp (disch := omega) only [↓MC.wp, ↓opsWp, ↓drWp, ↓MOp.wp, evs, ev, eget, eput, eput?, pev, pbin, pint, pbool, pstr, psl, vnil, pbuild, overlay, ↓thenQ, ↓blockQ, ↓retQ, ↓resWp, tupV, stills, MOp.still, known, Op.operands, argEnv, ekeep, Nat.reduceAdd, reduceCtorEq, if_true, if_false, ↓reduceIte, ne_eq, Int.reduceEq, Int.reduceLT, Int.reduceLE, Int.reduceAdd, Int.reduceSub, Int.reduceMul, Int.reduceToNat, Nat.reduceMul, Nat.reduceLeDiff, Nat.reduceLT, Nat.reduceSub, WB, set_one]
          refine new ?_
          intro b2 w5 hb5 hs5 hc5 hf5
          simp -dsimp (disch := omega) only [↓MC.wp, ↓opsWp, ↓drWp, ↓MOp.wp, evs, ev, eget, eput, eput?, pev, pbin, pint, pbool, pstr, psl, vnil, pbuild, overlay, ↓thenQ, ↓blockQ, ↓retQ, ↓resWp, tupV, stills, MOp.still, known, Op.operands, argEnv, ekeep, Nat.reduceAdd, reduceCtorEq, if_true, if_false, ↓reduceIte, ne_eq, Int.reduceEq, Int.reduceLT, Int.reduceLE, Int.reduceAdd, Int.reduceSub, Int.reduceMul, Int.reduceToNat, Nat.reduceMul, Nat.reduceLeDiff, Nat.reduceLT, Nat.reduceSub, WB]
          refine push_byte (x := 1) hrow hf3 hlen hc5 hf5 ?_
          intro r' w6 hr6 hf6
          simp -dsimp (disch := omega) only [↓MC.wp, ↓opsWp, ↓drWp, ↓MOp.wp, evs, ev, eget, eput, eput?, pev, pbin, pint, pbool, pstr, psl, vnil, pbuild, overlay, ↓thenQ, ↓blockQ, ↓retQ, ↓resWp, tupV, stills, MOp.still, known, Op.operands, argEnv, ekeep, Nat.reduceAdd, reduceCtorEq, if_true, if_false, ↓reduceIte, ne_eq, Int.reduceEq, Int.reduceLT, Int.reduceLE, Int.reduceAdd, Int.reduceSub, Int.reduceMul, Int.reduceToNat, Nat.reduceMul, Nat.reduceLeDiff, Nat.reduceLT, Nat.reduceSub, WB]
          refine ⟨(j + 1, r'), rfl, ⟨by dsimp only; omega, ?_, hf6⟩, by dsimp only; omega⟩
          dsimp only
          rw [hnext, show rcodeAt k i j = 1 from by rw [rcodeAt, if_neg hik, if_pos hij]]
          exact hr6
        · simp -dsimp (disch := omega) only [↓MC.wp, ↓opsWp, ↓drWp, ↓MOp.wp, evs, ev, eget, eput, eput?, pev, pbin, pint, pbool, pstr, psl, vnil, pbuild, overlay, ↓thenQ, ↓blockQ, ↓retQ, ↓resWp, tupV, stills, MOp.still, known, Op.operands, argEnv, ekeep, Nat.reduceAdd, reduceCtorEq, if_true, if_false, ↓reduceIte, ne_eq, Int.reduceEq, Int.reduceLT, Int.reduceLE, Int.reduceAdd, Int.reduceSub, Int.reduceMul, Int.reduceToNat, Nat.reduceMul, Nat.reduceLeDiff, Nat.reduceLT, Nat.reduceSub, WB, set_one]
          refine new ?_
          intro b2 w5 hb5 hs5 hc5 hf5
          simp -dsimp (disch := omega) only [↓MC.wp, ↓opsWp, ↓drWp, ↓MOp.wp, evs, ev, eget, eput, eput?, pev, pbin, pint, pbool, pstr, psl, vnil, pbuild, overlay, ↓thenQ, ↓blockQ, ↓retQ, ↓resWp, tupV, stills, MOp.still, known, Op.operands, argEnv, ekeep, Nat.reduceAdd, reduceCtorEq, if_true, if_false, ↓reduceIte, ne_eq, Int.reduceEq, Int.reduceLT, Int.reduceLE, Int.reduceAdd, Int.reduceSub, Int.reduceMul, Int.reduceToNat, Nat.reduceMul, Nat.reduceLeDiff, Nat.reduceLT, Nat.reduceSub, WB]
          refine push_byte (x := 0) hrow hf3 hlen hc5 hf5 ?_
          intro r' w6 hr6 hf6
          simp -dsimp (disch := omega) only [↓MC.wp, ↓opsWp, ↓drWp, ↓MOp.wp, evs, ev, eget, eput, eput?, pev, pbin, pint, pbool, pstr, psl, vnil, pbuild, overlay, ↓thenQ, ↓blockQ, ↓retQ, ↓resWp, tupV, stills, MOp.still, known, Op.operands, argEnv, ekeep, Nat.reduceAdd, reduceCtorEq, if_true, if_false, ↓reduceIte, ne_eq, Int.reduceEq, Int.reduceLT, Int.reduceLE, Int.reduceAdd, Int.reduceSub, Int.reduceMul, Int.reduceToNat, Nat.reduceMul, Nat.reduceLeDiff, Nat.reduceLT, Nat.reduceSub, WB]
          refine ⟨(j + 1, r'), rfl, ⟨by dsimp only; omega, ?_, hf6⟩, by dsimp only; omega⟩
          dsimp only
          rw [hnext, show rcodeAt k i j = 0 from by rw [rcodeAt, if_neg hik, if_neg hij]]
          exact hr6
    · have hc1 := Ow.cells1 hrow.1
      simp -dsimp (disch := omega) only [↓MC.wp, ↓opsWp, ↓drWp, ↓MOp.wp, evs, ev, eget, eput, eput?, pev, pbin, pint, pbool, pstr, psl, vnil, pbuild, overlay, ↓thenQ, ↓blockQ, ↓retQ, ↓resWp, tupV, stills, MOp.still, known, Op.operands, argEnv, ekeep, Nat.reduceAdd, reduceCtorEq, if_true, if_false, ↓reduceIte, ne_eq, Int.reduceEq, Int.reduceLT, Int.reduceLE, Int.reduceAdd, Int.reduceSub, Int.reduceMul, Int.reduceToNat, Nat.reduceMul, Nat.reduceLeDiff, Nat.reduceLT, Nat.reduceSub, WB, hc1, set_one]
      have hjk : j = k := by omega
      subst hjk
      refine new ?_
      intro b2 w4 hb2 hs4 hc4 hf4
      simp -dsimp (disch := omega) only [↓MC.wp, ↓opsWp, ↓drWp, ↓MOp.wp, evs, ev, eget, eput, eput?, pev, pbin, pint, pbool, pstr, psl, vnil, pbuild, overlay, ↓thenQ, ↓blockQ, ↓retQ, ↓resWp, tupV, stills, MOp.still, known, Op.operands, argEnv, ekeep, Nat.reduceAdd, reduceCtorEq, if_true, if_false, ↓reduceIte, ne_eq, Int.reduceEq, Int.reduceLT, Int.reduceLE, Int.reduceAdd, Int.reduceSub, Int.reduceMul, Int.reduceToNat, Nat.reduceMul, Nat.reduceLeDiff, Nat.reduceLT, Nat.reduceSub, WB]
      have hlen : ((List.range i).map fun i => (List.range j).map (rcodeAt j i)).length ≤ 1000000 := by rw [List.length_map, List.length_range]; omega
      refine push_row ho hf hf3 hrow hlen hb2 hs4 hc4 hf4 ?_
      intro r' w' hr' hf'
      simp -dsimp (disch := omega) only [↓MC.wp, ↓opsWp, ↓drWp, ↓MOp.wp, evs, ev, eget, eput, eput?, pev, pbin, pint, pbool, pstr, psl, vnil, pbuild, overlay, ↓thenQ, ↓blockQ, ↓retQ, ↓resWp, tupV, stills, MOp.still, known, Op.operands, argEnv, ekeep, Nat.reduceAdd, reduceCtorEq, if_true, if_false, ↓reduceIte, ne_eq, Int.reduceEq, Int.reduceLT, Int.reduceLE, Int.reduceAdd, Int.reduceSub, Int.reduceMul, Int.reduceToNat, Nat.reduceMul, Nat.reduceLeDiff, Nat.reduceLT, Nat.reduceSub, WB]
      refine ⟨(i + 1, r'), rfl, ⟨by dsimp only; omega, ?_, hf'⟩, by dsimp only; omega⟩
      dsimp only
      rw [List.range_succ, List.map_append]
      exact hr'
  · simp -dsimp (disch := omega) only [↓MC.wp, ↓opsWp, ↓drWp, ↓MOp.wp, evs, ev, eget, eput, eput?, pev, pbin, pint, pbool, pstr, psl, vnil, pbuild, overlay, ↓thenQ, ↓blockQ, ↓retQ, ↓resWp, tupV, stills, MOp.still, known, Op.operands, argEnv, ekeep, Nat.reduceAdd, reduceCtorEq, if_true, if_false, ↓reduceIte, ne_eq, Int.reduceEq, Int.reduceLT, Int.reduceLE, Int.reduceAdd, Int.reduceSub, Int.reduceMul, Int.reduceToNat, Nat.reduceMul, Nat.reduceLeDiff, Nat.reduceLT, Nat.reduceSub, WB]
    have hin : i = n := by omega
    subst hin
    exact ⟨ho, hf⟩

def rdot (r : List UInt8) (b : LL) (j : Nat) : Nat → UInt8
  | 0 => 0
  | k + 1 => rdot r b j k ^^^ rmul (r.getD k 0) (entry b k j)
def rrow (r : List UInt8) (b : LL) : List UInt8 := (List.range (width b)).map fun j => rdot r b j b.length
def rmulM (a b : LL) : LL := if width a = b.length then a.map (fun r => rrow r b) else []

theorem rmmul_calls {w : World} {B B' : Nat} {v v' : Value} {a b : LL} (ha : MS w B v a) (hb : MS w B' v' b) (ra : RightM a) (rb : RightM b) (sa : Small a) (sb : Small b) :
    Calls Try.prog f_ref04_Mul #[v, v'] w fun en w' => ∃ r, en = .returned r ∧ (NewMat w.heap.size w' r (rmulM a b) ∧ Fr No w w') := by
  obtain ⟨A, c, rfl⟩ := MS.form ha
  obtain ⟨A', c', rfl⟩ := MS.form hb
  have pa := ra.pos
  have pb := rb.pos
  have hah := sa.high
  have hbh := sb.high
  obtain ⟨ad, A0, c0, rfl, hcell0, _⟩ := MS.row ha pa
  obtain ⟨bd, B0, d0, rfl, hbcell0, _⟩ := MS.row hb pb
  rw [width_eq pa] at hcell0
  rw [width_eq pb] at hbcell0
  have wb' : width b ≤ 1000 := by rw [← width_eq pb]; exact sb.wide _ (List.getElem_mem pb)
  refine calls_of_mf (args := [.slice (some ad) a.length c, .slice (some bd) b.length c']) c_ref04_Mul (by simp only [m_ref04_Mul, List.length]; decide) ?_
  by_cases hw : width a = b.length
  · rw [rmulM, if_pos hw]
    simp -dsimp (disch := omega) only [↓MC.wp, ↓opsWp, ↓drWp, ↓MOp.wp, evs, ev, eget, eput, eput?, pev, pbin, pint, pbool, pstr, psl, vnil, pbuild, overlay, ↓thenQ, ↓blockQ, ↓retQ, ↓resWp, tupV, stills, MOp.still, known, Op.operands, argEnv, ekeep, Nat.reduceAdd, reduceCtorEq, if_true, if_false, ↓reduceIte, ne_eq, Int.reduceEq, Int.reduceLT, Int.reduceLE, Int.reduceAdd, Int.reduceSub, Int.reduceMul, Int.reduceToNat, Nat.reduceMul, Nat.reduceLeDiff, Nat.reduceLT, Nat.reduceSub, WB, m_ref04_Mul, hcell0]
    refine loopS [0, 1, 5, 6] (fun s : Nat × Value => [(0, .slice (some ad) a.length c), (1, .slice (some bd) b.length c'), (5, s.2), (6, .int .i64 s.1)])
      (fun s w1 => s.1 ≤ a.length ∧ NewMat w.heap.size w1 s.2 ((a.take s.1).map (fun r => rrow r b)) ∧ Fr No w w1) (fun s _ => a.length - s.1) (0, .slice none 0 0) (by with_unfolding_all rfl) ⟨Nat.zero_le _, NewMat.nil _ _, Fr.refl _ _⟩ ?_
    rintro ⟨i, o⟩ w1 ⟨hi, ho, hf⟩
    dsimp only at hi ho ⊢
    by_cases hlt : i < a.length
    · obtain ⟨ad', A2, c2, e2, hcelli, hrowi⟩ := MS.row ha hlt
      cases e2
      have hwi : a[i].length = b.length := by rw [ra.all _ (List.getElem_mem hlt), hw]
      simp -dsimp (disch := omega) only [↓MC.wp, ↓opsWp, ↓drWp, ↓MOp.wp, evs, ev, eget, eput, eput?, pev, pbin, pint, pbool, pstr, psl, vnil, pbuild, overlay, ↓thenQ, ↓blockQ, ↓retQ, ↓resWp, tupV, stills, MOp.still, known, Op.operands, argEnv, ekeep, Nat.reduceAdd, reduceCtorEq, if_true, if_false, ↓reduceIte, ne_eq, Int.reduceEq, Int.reduceLT, Int.reduceLE, Int.reduceAdd, Int.reduceSub, Int.reduceMul, Int.reduceToNat, Nat.reduceMul, Nat.reduceLeDiff, Nat.reduceLT, Nat.reduceSub, WB]
      refine loopS [0, 1, 5, 6, 7, 8] (fun s : Nat × Value => [(0, .slice (some ad) a.length c), (1, .slice (some bd) b.length c'), (5, o), (6, .int .i64 i), (7, s.2), (8, .int .i64 s.1)])
        (fun s w3 => s.1 ≤ width b ∧ NewRow w1.heap.size w3 s.2 ((List.range s.1).map fun j => rdot a[i] b j b.length) ∧ Fr No w1 w3) (fun s _ => width b - s.1) (0, .slice none 0 0) (by with_unfolding_all rfl) ⟨Nat.zero_le _, NewRow.nil _ _, Fr.refl _ _⟩ ?_
      rintro ⟨j, row⟩ w3 ⟨hj, hrow, hf3⟩
      dsimp only at hj hrow ⊢
      have hbcell3 : w3.cell? (bd.add 0) = some (.slice B0 (width b) d0) := by rw [(hf.then hf3).cell (cell_block_lt hbcell0) (fun h => h)]; exact hbcell0
      by_cases hjl : j < width b
      · have hlen : ((List.range j).map fun j => rdot a[i] b j b.length).length ≤ 1000000 := by rw [List.length_map, List.length_range]; omega
        have hnext : ((List.range (j + 1)).map fun j => rdot a[i] b j b.length) = ((List.range j).map fun j => rdot a[i] b j b.length) ++ [rdot a[i] b j b.length] := by rw [List.range_succ, List.map_append]; rfl
        simp -dsimp (disch := omega) only [↓MC.wp, ↓opsWp, ↓drWp, ↓MOp.wp, evs, ev, eget, eput, eput?, pev, pbin, pint, pbool, pstr, psl, vnil, pbuild, overlay, ↓thenQ, ↓blockQ, ↓retQ, ↓resWp, tupV, stills, MOp.still, known, Op.operands, argEnv, ekeep, Nat.reduceAdd, reduceCtorEq, if_true, if_false, ↓reduceIte, ne_eq, Int.reduceEq, Int.reduceLT, Int.reduceLE, Int.reduceAdd, Int.reduceSub, Int.reduceMul, Int.reduceToNat, Nat.reduceMul, Nat.reduceLeDiff, Nat.reduceLT, Nat.reduceSub, WB, hbcell3]
        refine loopS [0, 1, 5, 6, 7, 8, 9, 10] (fun k : Nat => [(0, .slice (some ad) a.length c), (1, .slice (some bd) b.length c'), (5, o), (6, .int .i64 i), (7, row), (8, .int .i64 j), (9, U8 (rdot a[i] b j k)), (10, .int .i64 k)])
          (fun k w4 => k ≤ b.length ∧ Fr No w3 w4) (fun k _ => b.length - k) 0 (by with_unfolding_all rfl) ⟨Nat.zero_le _, Fr.refl _ _⟩ ?_
        rintro k w4 ⟨hk, hf4⟩
        have hf04 : Fr No w w4 := (hf.then hf3).then hf4
        by_cases hkl : k < b.length
        · obtain ⟨bd', B2, d2, e3, hcellk, hrowk⟩ := MS.row hb hkl
          cases e3
          have hbk : b[k].length = width b := rb.all _ (List.getElem_mem hkl)
          obtain ⟨A3, c3, e4, hc3, hcells⟩ := hrowi.open
          cases e4
          obtain ⟨ae, hae, _, hcellx⟩ := hcells k (by omega)
          subst hae
          obtain ⟨B3, d3, e5, hd3, hcells'⟩ := hrowk.open
          cases e5
          obtain ⟨be, hbe, _, hcelly⟩ := hcells' j (by omega)
          subst hbe
          have g1 : w4.cell? (ad.add i) = some (.slice (some ae) a[i].length c2) := by rw [hf04.cell (cell_block_lt hcelli) (fun h => h)]; exact hcelli
          have g2 : w4.cell? (ae.add k) = some (U8 a[i][k]) := by rw [hf04.cell (cell_block_lt hcellx) (fun h => h)]; exact hcellx
          have g3 : w4.cell? (bd.add k) = some (.slice (some be) b[k].length d2) := by rw [hf04.cell (cell_block_lt hcellk) (fun h => h)]; exact hcellk
          have g4 : w4.cell? (be.add j) = some (U8 b[k][j]) := by rw [hf04.cell (cell_block_lt hcelly) (fun h => h)]; exact hcelly
          simp -dsimp (disch := omega) only [↓MC.wp, ↓opsWp, ↓drWp, ↓MOp.wp, evs, ev, eget, eput, eput?, pev, pbin, pint, pbool, pstr, psl, vnil, pbuild, overlay, ↓thenQ, ↓blockQ, ↓retQ, ↓resWp, tupV, stills, MOp.still, known, Op.operands, argEnv, ekeep, Nat.reduceAdd, reduceCtorEq, if_true, if_false, ↓reduceIte, ne_eq, Int.reduceEq, Int.reduceLT, Int.reduceLE, Int.reduceAdd, Int.reduceSub, Int.reduceMul, Int.reduceToNat, Nat.reduceMul, Nat.reduceLeDiff, Nat.reduceLT, Nat.reduceSub, WB, g1, g2, g3, g4]
          refine call (rmul_calls a[i][k] b[k][j]) ?_
          intro r w5 h5
          rw [h5.1]
          have hf5 := h5.2
          have g1' : w5.cell? (ad.add i) = some (.slice (some ae) a[i].length c2) := by rw [hf5.cell (cell_block_lt g1) (fun h => h)]; exact g1
          have g3' : w5.cell? (bd.add k) = some (.slice (some be) b[k].length d2) := by rw [hf5.cell (cell_block_lt g3) (fun h => h)]; exact g3
          simp -dsimp (disch := omega) only [↓MC.wp, ↓opsWp, ↓drWp, ↓MOp.wp, evs, ev, eget, eput, eput?, pev, pbin, pint, pbool, pstr, psl, vnil, pbuild, overlay, ↓thenQ, ↓blockQ, ↓retQ, ↓resWp, tupV, stills, MOp.still, known, Op.operands, argEnv, ekeep, Nat.reduceAdd, reduceCtorEq, if_true, if_false, ↓reduceIte, ne_eq, Int.reduceEq, Int.reduceLT, Int.reduceLE, Int.reduceAdd, Int.reduceSub, Int.reduceMul, Int.reduceToNat, Nat.reduceMul, Nat.reduceLeDiff, Nat.reduceLT, Nat.reduceSub, WB, g1', g3', U8, xor_u8]
          refine ⟨k + 1, ?_, ⟨by omega, hf4.then hf5.of_drew⟩, by omega⟩
          have e1 : rdot a[i] b j (k + 1) = rdot a[i] b j k ^^^ rmul a[i][k] b[k][j] := by
            rw [rdot, getD_of_lt 0 (by omega), entry_eq hkl (by omega)]
          rw [e1]
          rfl
        · have hkb : k = b.length := by omega
          subst hkb
          simp -dsimp (disch := omega) only [↓MC.wp, ↓opsWp, ↓drWp, ↓MOp.wp, evs, ev, eget, eput, eput?, pev, pbin, pint, pbool, pstr, psl, vnil, pbuild, overlay, ↓thenQ, ↓blockQ, ↓retQ, ↓resWp, tupV, stills, MOp.still, known, Op.operands, argEnv, ekeep, Nat.reduceAdd, reduceCtorEq, if_true, if_false, ↓reduceIte, ne_eq, Int.reduceEq, Int.reduceLT, Int.reduceLE, Int.reduceAdd, Int.reduceSub, Int.reduceMul, Int.reduceToNat, Nat.reduceMul, Nat.reduceLeDiff, Nat.reduceLT, Nat.reduceSub, WB, U8, set_one]
          refine new ?_
          intro b2 w5 hb5 hs5 hc5 hf5
          simp -dsimp (disch := omega) only [↓MC.wp, ↓opsWp, ↓drWp, ↓MOp.wp, evs, ev, eget, eput, eput?, pev, pbin, pint, pbool, pstr, psl, vnil, pbuild, overlay, ↓thenQ, ↓blockQ, ↓retQ, ↓resWp, tupV, stills, MOp.still, known, Op.operands, argEnv, ekeep, Nat.reduceAdd, reduceCtorEq, if_true, if_false, ↓reduceIte, ne_eq, Int.reduceEq, Int.reduceLT, Int.reduceLE, Int.reduceAdd, Int.reduceSub, Int.reduceMul, Int.reduceToNat, Nat.reduceMul, Nat.reduceLeDiff, Nat.reduceLT, Nat.reduceSub, WB]
          refine push_byte (x := rdot a[i] b j b.length) (hrow.no hf4) (hf3.then hf4) hlen hc5 hf5 ?_
          intro r' w6 hr6 hf6
          simp -dsimp (disch := omega) only [↓MC.wp, ↓opsWp, ↓drWp, ↓MOp.wp, evs, ev, eget, eput, eput?, pev, pbin, pint, pbool, pstr, psl, vnil, pbuild, overlay, ↓thenQ, ↓blockQ, ↓retQ, ↓resWp, tupV, stills, MOp.still, known, Op.operands, argEnv, ekeep, Nat.reduceAdd, reduceCtorEq, if_true, if_false, ↓reduceIte, ne_eq, Int.reduceEq, Int.reduceLT, Int.reduceLE, Int.reduceAdd, Int.reduceSub, Int.reduceMul, Int.reduceToNat, Nat.reduceMul, Nat.reduceLeDiff, Nat.reduceLT, Nat.reduceSub, WB]
          refine ⟨(j + 1, r'), rfl, ⟨by dsimp only; omega, ?_, hf6⟩, by dsimp only; omega⟩
          dsimp only
          rw [hnext]
          exact hr6
      · have hc1 := Ow.cells1 hrow.1
        simp -dsimp (disch := omega) only [↓MC.wp, ↓opsWp, ↓drWp, ↓MOp.wp, evs, ev, eget, eput, eput?, pev, pbin, pint, pbool, pstr, psl, vnil, pbuild, overlay, ↓thenQ, ↓blockQ, ↓retQ, ↓resWp, tupV, stills, MOp.still, known, Op.operands, argEnv, ekeep, Nat.reduceAdd, reduceCtorEq, if_true, if_false, ↓reduceIte, ne_eq, Int.reduceEq, Int.reduceLT, Int.reduceLE, Int.reduceAdd, Int.reduceSub, Int.reduceMul, Int.reduceToNat, Nat.reduceMul, Nat.reduceLeDiff, Nat.reduceLT, Nat.reduceSub, WB, hbcell3, hc1, set_one]
        have hjk : j = width b := by omega
        subst hjk
        refine new ?_
        intro b2 w4 hb2 hs4 hc4 hf4
        simp -dsimp (disch := omega) only [↓MC.wp, ↓opsWp, ↓drWp, ↓MOp.wp, evs, ev, eget, eput, eput?, pev, pbin, pint, pbool, pstr, psl, vnil, pbuild, overlay, ↓thenQ, ↓blockQ, ↓retQ, ↓resWp, tupV, stills, MOp.still, known, Op.operands, argEnv, ekeep, Nat.reduceAdd, reduceCtorEq, if_true, if_false, ↓reduceIte, ne_eq, Int.reduceEq, Int.reduceLT, Int.reduceLE, Int.reduceAdd, Int.reduceSub, Int.reduceMul, Int.reduceToNat, Nat.reduceMul, Nat.reduceLeDiff, Nat.reduceLT, Nat.reduceSub, WB]
        have hlen : ((a.take i).map (fun r => rrow r b)).length ≤ 1000000 := by rw [List.length_map, List.length_take]; omega
        refine push_row (x := rrow a[i] b) ho hf hf3 hrow hlen hb2 hs4 hc4 hf4 ?_
        intro r' w' hr' hf'
        simp -dsimp (disch := omega) only [↓MC.wp, ↓opsWp, ↓drWp, ↓MOp.wp, evs, ev, eget, eput, eput?, pev, pbin, pint, pbool, pstr, psl, vnil, pbuild, overlay, ↓thenQ, ↓blockQ, ↓retQ, ↓resWp, tupV, stills, MOp.still, known, Op.operands, argEnv, ekeep, Nat.reduceAdd, reduceCtorEq, if_true, if_false, ↓reduceIte, ne_eq, Int.reduceEq, Int.reduceLT, Int.reduceLE, Int.reduceAdd, Int.reduceSub, Int.reduceMul, Int.reduceToNat, Nat.reduceMul, Nat.reduceLeDiff, Nat.reduceLT, Nat.reduceSub, WB]
        refine ⟨(i + 1, r'), rfl, ⟨by dsimp only; omega, ?_, hf'⟩, by dsimp only; omega⟩
        dsimp only
        rw [take_succ' hlt, List.map_append]
        exact hr'
    · simp -dsimp (disch := omega) only [↓MC.wp, ↓opsWp, ↓drWp, ↓MOp.wp, evs, ev, eget, eput, eput?, pev, pbin, pint, pbool, pstr, psl, vnil, pbuild, overlay, ↓thenQ, ↓blockQ, ↓retQ, ↓resWp, tupV, stills, MOp.still, known, Op.operands, argEnv, ekeep, Nat.reduceAdd, reduceCtorEq, if_true, if_false, ↓reduceIte, ne_eq, Int.reduceEq, Int.reduceLT, Int.reduceLE, Int.reduceAdd, Int.reduceSub, Int.reduceMul, Int.reduceToNat, Nat.reduceMul, Nat.reduceLeDiff, Nat.reduceLT, Nat.reduceSub, WB]
      have hin : i = a.length := by omega
      subst hin
      rw [List.take_length] at ho
      exact ⟨ho, hf⟩
  · rw [rmulM, if_neg hw]
    simp -dsimp (disch := omega) only [↓MC.wp, ↓opsWp, ↓drWp, ↓MOp.wp, evs, ev, eget, eput, eput?, pev, pbin, pint, pbool, pstr, psl, vnil, pbuild, overlay, ↓thenQ, ↓blockQ, ↓retQ, ↓resWp, tupV, stills, MOp.still, known, Op.operands, argEnv, ekeep, Nat.reduceAdd, reduceCtorEq, if_true, if_false, ↓reduceIte, ne_eq, Int.reduceEq, Int.reduceLT, Int.reduceLE, Int.reduceAdd, Int.reduceSub, Int.reduceMul, Int.reduceToNat, Nat.reduceMul, Nat.reduceLeDiff, Nat.reduceLT, Nat.reduceSub, WB, m_ref04_Mul, hcell0]
    exact ⟨NewMat.nil _ _, Fr.refl _ _⟩
end Go.Proofs.Ytgpkbldlkadnjaa
end
section
/- Walks: the reference's determinant. -/
set_option linter.unusedVariables false
set_option linter.unusedSimpArgs false
set_option maxHeartbeats 3000000
attribute [local irreducible] Go.Sl.Chk Go.Sl.Br Go.Sl.Ld Go.Sl.Ldn Go.Sl.LdB Go.Sl.Stn Go.Sl.New Go.Sl.Run Go.Sl.RunU Go.Sl.RunX Go.Sl.Call Go.Sl.LoopK Go.Sl.RawK Go.Sl.ev Go.Sl.eget
namespace Go.Proofs.Ytgpkbldlkadnjaa
open Go Go.Sl Go.RowKit

def minorTo (m : LL) (i k : Nat) : LL := ((List.range k).filter fun x => x != i).map fun k => (m.getD k []).drop 1
def minor (m : LL) (i : Nat) : LL := minorTo m i m.length
def detAcc (f : LL → UInt8) (m : LL) : Nat → UInt8
  | 0 => 0
  | i + 1 => if entry m i 0 = 0 then detAcc f m i else detAcc f m i ^^^ rmul (entry m i 0) (f (minor m i))
def det : Nat → LL → UInt8
  | 0 => fun _ => 0
  | 1 => fun m => entry m 0 0
  | n + 2 => fun m => detAcc (det (n + 1)) m (n + 2)

theorem BS.drop1 {w : World} {B n c : Nat} {ad : Addr} {xs : List UInt8} (h : BS w B (.slice (some ad) n c) xs) (hn : 1 ≤ n) : BS w B (.slice (some (ad.add 1)) (n - 1) (c - 1)) (xs.drop 1) := by
  obtain ⟨A', c', e, hc, hr⟩ := h.open
  cases e
  refine ⟨_, _, by rw [List.length_map, List.length_drop], by rw [List.length_map, List.length_drop]; omega, fun j u hu => ?_⟩
  have hj : j + 1 < xs.length := by
    have := (List.getElem?_eq_some_iff.1 hu).1
    rw [List.length_map, List.length_drop] at this
    omega
  obtain ⟨ad', e, hb, hcell⟩ := hr (j + 1) hj
  cases e
  refine ⟨_, rfl, by rw [add_block]; exact hb, ?_⟩
  rw [Addr.add_add, Nat.add_comm 1 j, hcell]
  rw [List.getElem?_map, List.getElem?_drop, Nat.add_comm 1 j, List.getElem?_eq_getElem hj] at hu
  exact hu
/-- a spine of one's own over rows that are only read (they lay there at the start) -/
def VM (w0 : World) (B : Nat) (w : World) (r : Value) (m : LL) : Prop :=
  ∃ vs, vs.length = m.length ∧ Ow w 29 1 r m.length vs ∧ New' w0.heap.size r ∧ ∀ (j : Nat) (u : Value) (x : List UInt8), vs[j]? = some u → m[j]? = some x → BS w0 B u x
theorem VM.nil (w0 : World) (B : Nat) (w : World) : VM w0 B w (.slice none 0 0) [] := ⟨[], rfl, Ow.nil w 29 1, New'.nil _, fun j u x h => by simp at h⟩
theorem VM.ms {w0 w : World} {B : Nat} {r : Value} {m : LL} (h : VM w0 B w r m) (hf : Fr No w0 w) (hB : B ≤ w0.heap.size) : MS w w.heap.size r m := by
  obtain ⟨vs, h1, h2, h3, h4⟩ := h
  refine ⟨vs, ?_, h1, fun j u x hu hx => (BS.fr (h4 j u x hu hx) hf fun _ _ h => h).mono (by have := hf.size; omega)⟩
  rw [← h1] at h2
  exact Ow.rs h2 fun b hb => Ow.lt h2 hb
theorem VM.push {w0 w : World} {B : Nat} {r u : Value} {m : LL} {x : List UInt8} (h : VM w0 B w r m) (hf : Fr No w0 w) (hu : BS w0 B u x) (hl : m.length ≤ 1000000) {b2 c : Nat} {w2 : World}
    (hc2 : w2.heap[b2]? = some (.cells #[u] 29 (0, 0))) (hf2 : Fr No w w2) {K : Value → World → Prop} {tg : TagF K}
    (k : ∀ r' w', VM w0 B w' r' (m ++ [x]) → Fr No w0 w' → K r' w') :
    Run Try.prog (Builtin.append_ #[22, 22] 22 #[r, .slice (some ⟨b2, 0, none⟩) 1 c]) w2 K tg := by
  obtain ⟨vs, h1, h2, h3, h4⟩ := h
  have hsz := hf.size
  have hsz2 := hf2.size
  refine app elM (Ow.no h2 hf2) (m := 1) (src_lit hc2 c) rfl ?_ (by omega) (by omega) fun v4 w4 ho4 hf4 hat => ?_
  · intro v hv
    simp at hv
    subst hv
    obtain ⟨_, _, rfl, _⟩ := hu.open
    rfl
  · refine k v4 w4 ⟨vs ++ [u], by simp [h1], by simpa using ho4, h3.app (by omega) hat, fun j v y hv hy => ?_⟩ ((hf.then hf2).own h3 hf4)
    by_cases hj : j < m.length
    · rw [List.getElem?_append_left (by omega)] at hv
      rw [List.getElem?_append_left hj] at hy
      exact h4 j v y hv hy
    · rw [List.getElem?_append_right (by omega)] at hv
      rw [List.getElem?_append_right (by omega)] at hy
      rw [h1] at hv
      cases hk : j - m.length with
      | zero =>
        rw [hk] at hv hy
        simp only [List.getElem?_cons_zero, Option.some.injEq] at hv hy
        subst hv
        subst hy
        exact hu
      | succ k => rw [hk] at hv; simp at hv
end Go.Proofs.Ytgpkbldlkadnjaa
end
section
/- Walks: the reference's determinant, walked. -/
set_option linter.unusedVariables false
set_option linter.unusedSimpArgs false
set_option maxHeartbeats 3000000
attribute [local irreducible] Go.Sl.Chk Go.Sl.Br Go.Sl.Ld Go.Sl.Ldn Go.Sl.LdB Go.Sl.Stn Go.Sl.New Go.Sl.Run Go.Sl.RunU Go.Sl.RunX Go.Sl.Call Go.Sl.LoopK Go.Sl.RawK Go.Sl.ev Go.Sl.eget
namespace Go.Proofs.Ytgpkbldlkadnjaa
open Go Go.Sl Go.RowKit

end Go.Proofs.Ytgpkbldlkadnjaa
end
section
/- Plain: the field's laws. -/
set_option linter.unusedVariables false
set_option maxHeartbeats 2000000
namespace Go.Proofs.Ytgpkbldlkadnjaa
open Go Go.Sl

/-! ### one step: x times 2 -/
theorem step_xor_all : (List.range 256).all (fun x => (List.range 256).all fun y => stepX (x ^^^ y) == stepX x ^^^ stepX y) = true := by decide +kernel
theorem step_xor {x y : Nat} (hx : x < 256) (hy : y < 256) : stepX (x ^^^ y) = stepX x ^^^ stepX y := by
  have := List.all_eq_true.1 (List.all_eq_true.1 step_xor_all x (List.mem_range.2 hx)) y (List.mem_range.2 hy)
  simpa using this

/-! ### the tables, written out -/
def expT : List Nat := [1, 2, 4, 8, 16, 32, 64, 128, 29, 58, 116, 232, 205, 135, 19, 38, 76, 152, 45, 90, 180, 117, 234, 201, 143, 3, 6, 12, 24, 48, 96, 192, 157, 39, 78, 156, 37, 74, 148, 53, 106, 212, 181, 119, 238, 193, 159, 35, 70, 140, 5, 10, 20, 40, 80, 160, 93, 186, 105, 210, 185, 111, 222, 161, 95, 190, 97, 194, 153, 47, 94, 188, 101, 202, 137, 15, 30, 60, 120, 240, 253, 231, 211, 187, 107, 214, 177, 127, 254, 225, 223, 163, 91, 182, 113, 226, 217, 175, 67, 134, 17, 34, 68, 136, 13, 26, 52, 104, 208, 189, 103, 206, 129, 31, 62, 124, 248, 237, 199, 147, 59, 118, 236, 197, 151, 51, 102, 204, 133, 23, 46, 92, 184, 109, 218, 169, 79, 158, 33, 66, 132, 21, 42, 84, 168, 77, 154, 41, 82, 164, 85, 170, 73, 146, 57, 114, 228, 213, 183, 115, 230, 209, 191, 99, 198, 145, 63, 126, 252, 229, 215, 179, 123, 246, 241, 255, 227, 219, 171, 75, 150, 49, 98, 196, 149, 55, 110, 220, 165, 87, 174, 65, 130, 25, 50, 100, 200, 141, 7, 14, 28, 56, 112, 224, 221, 167, 83, 166, 81, 162, 89, 178, 121, 242, 249, 239, 195, 155, 43, 86, 172, 69, 138, 9, 18, 36, 72, 144, 61, 122, 244, 245, 247, 243, 251, 235, 203, 139, 11, 22, 44, 88, 176, 125, 250, 233, 207, 131, 27, 54, 108, 216, 173, 71, 142]
def logT : List Nat := [0, 0, 1, 25, 2, 50, 26, 198, 3, 223, 51, 238, 27, 104, 199, 75, 4, 100, 224, 14, 52, 141, 239, 129, 28, 193, 105, 248, 200, 8, 76, 113, 5, 138, 101, 47, 225, 36, 15, 33, 53, 147, 142, 218, 240, 18, 130, 69, 29, 181, 194, 125, 106, 39, 249, 185, 201, 154, 9, 120, 77, 228, 114, 166, 6, 191, 139, 98, 102, 221, 48, 253, 226, 152, 37, 179, 16, 145, 34, 136, 54, 208, 148, 206, 143, 150, 219, 189, 241, 210, 19, 92, 131, 56, 70, 64, 30, 66, 182, 163, 195, 72, 126, 110, 107, 58, 40, 84, 250, 133, 186, 61, 202, 94, 155, 159, 10, 21, 121, 43, 78, 212, 229, 172, 115, 243, 167, 87, 7, 112, 192, 247, 140, 128, 99, 13, 103, 74, 222, 237, 49, 197, 254, 24, 227, 165, 153, 119, 38, 184, 180, 124, 17, 68, 146, 217, 35, 32, 137, 46, 55, 63, 209, 91, 149, 188, 207, 205, 144, 135, 151, 178, 220, 252, 190, 97, 242, 86, 211, 171, 20, 42, 93, 158, 132, 60, 57, 83, 71, 109, 65, 162, 31, 45, 67, 216, 183, 123, 164, 118, 196, 23, 73, 236, 127, 12, 111, 246, 108, 161, 59, 82, 41, 157, 85, 170, 251, 96, 134, 177, 187, 204, 62, 90, 203, 89, 95, 176, 156, 169, 160, 81, 11, 245, 22, 235, 122, 117, 44, 215, 79, 174, 213, 233, 230, 231, 173, 232, 116, 214, 244, 234, 168, 80, 88, 175]
theorem tab_eq : gfTab 255 = (expT, logT, 1) := by decide +kernel
theorem gexp_eq (i : Nat) : gexp i = expT.getD i 0 := by rw [gexp, tab_eq]
theorem glog_eq (a : Nat) : glog a = logT.getD a 0 := by rw [glog, tab_eq]
theorem exp_step_all : (List.range 255).all (fun i => expT.getD ((i + 1) % 255) 0 == stepX (expT.getD i 0)) = true := by decide +kernel
theorem exp_step {i : Nat} (h : i < 255) : gexp ((i + 1) % 255) = stepX (gexp i) := by
  rw [gexp_eq, gexp_eq]
  have := List.all_eq_true.1 exp_step_all i (List.mem_range.2 h)
  simpa using this
theorem exp_log_all : (List.range 256).all (fun b => b == 0 || expT.getD (logT.getD b 0) 0 == b) = true := by decide +kernel
theorem exp_log {b : Nat} (h : b < 256) (h0 : b ≠ 0) : gexp (glog b) = b := by
  rw [gexp_eq, glog_eq]
  have := List.all_eq_true.1 exp_log_all b (List.mem_range.2 h)
  simpa [h0] using this
theorem log_exp_all : (List.range 255).all (fun i => logT.getD (expT.getD i 0) 0 == i && expT.getD i 0 != 0) = true := by decide +kernel
theorem log_exp {i : Nat} (h : i < 255) : glog (gexp i) = i ∧ gexp i ≠ 0 := by
  rw [glog_eq, gexp_eq]
  have := List.all_eq_true.1 log_exp_all i (List.mem_range.2 h)
  simpa using this
theorem exp_zero : gexp 0 = 1 := by rw [gexp_eq]; rfl
theorem log_one : glog 1 = 0 := by rw [glog_eq]; rfl

/-! ### products of numbers -/
def gmN (a b : Nat) : Nat := if a = 0 ∨ b = 0 then 0 else gexp ((glog a + glog b) % 255)
theorem gmN_lt (a b : Nat) : gmN a b < 256 := by
  unfold gmN
  split
  · omega
  · exact gexp_lt _
theorem gmN_comm (a b : Nat) : gmN a b = gmN b a := by
  unfold gmN
  rw [Nat.add_comm]
  by_cases h : a = 0 ∨ b = 0
  · rw [if_pos h, if_pos h.symm]
  · rw [if_neg h, if_neg fun e => h e.symm]
theorem gmN_zero (a : Nat) : gmN a 0 = 0 := by simp [gmN]
theorem zero_gmN (a : Nat) : gmN 0 a = 0 := by simp [gmN]
theorem gmN_ne {a b : Nat} (ha : a ≠ 0) (hb : b ≠ 0) : gmN a b = gexp ((glog a + glog b) % 255) := by rw [gmN, if_neg (by simp [ha, hb])]
theorem gmN_nz {a b : Nat} (ha : a ≠ 0) (hb : b ≠ 0) : gmN a b ≠ 0 := by
  rw [gmN_ne ha hb]
  exact (log_exp (Nat.mod_lt _ (by omega))).2
theorem log_gmN {a b : Nat} (ha : a ≠ 0) (hb : b ≠ 0) : glog (gmN a b) = (glog a + glog b) % 255 := by
  rw [gmN_ne ha hb]
  exact (log_exp (Nat.mod_lt _ (by omega))).1
theorem gmN_assoc (a b c : Nat) : gmN (gmN a b) c = gmN a (gmN b c) := by
  by_cases ha : a = 0
  · subst ha; rw [zero_gmN, zero_gmN, zero_gmN]
  by_cases hb : b = 0
  · subst hb; rw [gmN_zero, zero_gmN, gmN_zero]
  by_cases hc : c = 0
  · subst hc; rw [gmN_zero, gmN_zero, gmN_zero]
  rw [gmN_ne (gmN_nz ha hb) hc, gmN_ne ha (gmN_nz hb hc), log_gmN ha hb, log_gmN hb hc]
  have e : ((glog a + glog b) % 255 + glog c) % 255 = (glog a + (glog b + glog c) % 255) % 255 := by omega
  rw [e]
theorem gmN_one {b : Nat} (hb : b < 256) : gmN 1 b = b := by
  by_cases h0 : b = 0
  · subst h0; exact gmN_zero _
  · rw [gmN_ne (by omega) h0, log_one, Nat.zero_add, Nat.mod_eq_of_lt (glog_lt b), exp_log hb h0]
theorem step_eq {x : Nat} (hx : x < 256) : stepX x = gmN 2 x := by
  by_cases h0 : x = 0
  · subst h0; rw [gmN_zero]; rfl
  · have h2 : glog 2 = 1 := by rw [glog_eq]; rfl
    have := exp_step (glog_lt x)
    rw [exp_log hx h0] at this
    rw [gmN_ne (by omega) h0, h2, Nat.add_comm, this]
/-- so many steps -/
def steps : Nat → Nat → Nat
  | 0, x => x
  | i + 1, x => stepX (steps i x)
theorem steps_lt {x : Nat} (hx : x < 256) : ∀ i, steps i x < 256
  | 0 => hx
  | i + 1 => stepX_lt _ (steps_lt hx i)
theorem steps_xor {x y : Nat} (hx : x < 256) (hy : y < 256) : ∀ i, steps i (x ^^^ y) = steps i x ^^^ steps i y
  | 0 => rfl
  | i + 1 => by rw [steps, steps_xor hx hy i, step_xor (steps_lt hx i) (steps_lt hy i)]; rfl
theorem steps_eq {b : Nat} (hb : b < 256) : ∀ i, i < 255 → steps i b = gmN (gexp i) b
  | 0, _ => by rw [exp_zero, gmN_one hb]; rfl
  | i + 1, h => by
    rw [steps, steps_eq hb i (by omega), step_eq (gmN_lt _ _), ← gmN_assoc, ← step_eq (gexp_lt _), ← exp_step (by omega), Nat.mod_eq_of_lt h]
theorem gmN_xor {a b c : Nat} (ha : a < 256) (hb : b < 256) (hc : c < 256) : gmN a (b ^^^ c) = gmN a b ^^^ gmN a c := by
  by_cases h0 : a = 0
  · subst h0; rw [zero_gmN, zero_gmN, zero_gmN]; rfl
  · have e := exp_log ha h0
    have hl := glog_lt a
    have hx : b ^^^ c < 256 := Nat.xor_lt_two_pow (n := 8) hb hc
    rw [← e, ← steps_eq hx _ hl, ← steps_eq hb _ hl, ← steps_eq hc _ hl, steps_xor hb hc]

/-! ### the reference's product is the same -/
theorem gmN_one' {a : Nat} (ha : a < 256) : gmN a 1 = a := by rw [gmN_comm, gmN_one ha]
theorem step_small {z : Nat} (h : z < 128) : stepX z = 2 * z := by rw [stepX, if_neg (by omega)]
theorem step_shift {x z : Nat} (hx : x < 256) (hz : z < 256) : gmN (stepX x) z = gmN x (stepX z) := by
  rw [step_eq hx, step_eq hz, gmN_comm 2 x, gmN_assoc]
theorem split2 {y : Nat} (h : y < 256) : y = (2 * (y / 2)) ^^^ (y % 2) := by
  have : (2 * (y / 2)) ^^^ (y % 2) = 2 * (y / 2) + y % 2 := by
    have h2 : (List.range 256).all (fun y => (2 * (y / 2)) ^^^ (y % 2) == 2 * (y / 2) + y % 2) = true := by decide +kernel
    have := List.all_eq_true.1 h2 y (List.mem_range.2 h)
    simpa using this
  omega
theorem rm_inv {a b : Nat} (ha : a < 256) (hb : b < 256) : ∀ k, (rmSt a b k).2.2 ^^^ gmN (rmSt a b k).1 (rmSt a b k).2.1 = gmN a b
  | 0 => by show 0 ^^^ gmN a b = gmN a b; rw [Nat.zero_xor]
  | k + 1 => by
    obtain ⟨h1, h2, h3⟩ := rmSt_lt ha hb k
    rw [← rm_inv ha hb k]
    have e1 : (rmSt a b (k + 1)).1 = stepX (rmSt a b k).1 := rfl
    have e2 : (rmSt a b (k + 1)).2.1 = (rmSt a b k).2.1 / 2 := rfl
    have e3 : (rmSt a b (k + 1)).2.2 = if (rmSt a b k).2.1 % 2 = 1 then (rmSt a b k).2.2 ^^^ (rmSt a b k).1 else (rmSt a b k).2.2 := rfl
    rw [e1, e2, e3]
    generalize (rmSt a b k).1 = x at *
    generalize (rmSt a b k).2.1 = y at *
    generalize (rmSt a b k).2.2 = o at *
    have hy : gmN x y = gmN (stepX x) (y / 2) ^^^ gmN x (y % 2) := by
      conv => lhs; rw [split2 h2]
      rw [gmN_xor h1 (by omega) (by omega), step_shift h1 (by omega), step_small (by omega)]
    rw [hy]
    by_cases h : y % 2 = 1
    · rw [if_pos h, h, gmN_one' h1, Nat.xor_assoc, Nat.xor_comm x]
    · rw [if_neg h, show y % 2 = 0 from by omega, gmN_zero, Nat.xor_zero]
theorem rm_y {a b : Nat} : ∀ k, (rmSt a b k).2.1 = b / 2 ^ k
  | 0 => by show b = b / 2 ^ 0; simp
  | k + 1 => by
    show (rmSt a b k).2.1 / 2 = b / 2 ^ (k + 1)
    rw [rm_y k, Nat.div_div_eq_div_mul, Nat.pow_succ]
theorem rm_eq {a b : Nat} (ha : a < 256) (hb : b < 256) : (rmSt a b 8).2.2 = gmN a b := by
  have := rm_inv ha hb 8
  rw [rm_y 8, show b / 2 ^ 8 = 0 from by omega, gmN_zero, Nat.xor_zero] at this
  exact this

/-! ### products of bytes -/
theorem gmul_nat (a b : UInt8) : (gmul a b).toNat = gmN a.toNat b.toNat := by
  unfold gmul gmN
  by_cases h : a = 0 ∨ b = 0
  · rw [if_pos h, if_pos (by rcases h with rfl | rfl; exact .inl rfl; exact .inr rfl)]; rfl
  · rw [if_neg h, if_neg (by rw [u8_zero, u8_zero]; exact h), UInt8.toNat_ofNat', Nat.mod_eq_of_lt (gexp_lt _)]
where u8_zero (x : UInt8) : x.toNat = 0 ↔ x = 0 := ⟨fun h => UInt8.toNat_inj.1 h, fun h => by rw [h]; rfl⟩
theorem rmul_eq (a b : UInt8) : rmul a b = gmul a b := by
  apply UInt8.toNat_inj.1
  rw [gmul_nat, rmul, rm_eq a.toNat_lt b.toNat_lt, UInt8.toNat_ofNat', Nat.mod_eq_of_lt (gmN_lt _ _)]
theorem gmul_comm (a b : UInt8) : gmul a b = gmul b a := UInt8.toNat_inj.1 (by rw [gmul_nat, gmul_nat, gmN_comm])
theorem gmul_assoc (a b c : UInt8) : gmul (gmul a b) c = gmul a (gmul b c) := UInt8.toNat_inj.1 (by rw [gmul_nat, gmul_nat, gmul_nat, gmul_nat, gmN_assoc])
theorem gmul_xor (a b c : UInt8) : gmul a (b ^^^ c) = gmul a b ^^^ gmul a c := UInt8.toNat_inj.1 (by
  rw [gmul_nat, UInt8.toNat_xor, UInt8.toNat_xor, gmul_nat, gmul_nat, gmN_xor a.toNat_lt b.toNat_lt c.toNat_lt])
theorem xor_gmul (a b c : UInt8) : gmul (a ^^^ b) c = gmul a c ^^^ gmul b c := by rw [gmul_comm, gmul_xor, gmul_comm c a, gmul_comm c b]
theorem gmul_zero (a : UInt8) : gmul a 0 = 0 := by simp [gmul]
theorem zero_gmul (a : UInt8) : gmul 0 a = 0 := by simp [gmul]
theorem one_gmul (a : UInt8) : gmul 1 a = a := UInt8.toNat_inj.1 (by rw [gmul_nat]; exact gmN_one a.toNat_lt)
theorem gmul_one (a : UInt8) : gmul a 1 = a := by rw [gmul_comm, one_gmul]
theorem gmul_eq_zero {a b : UInt8} (h : gmul a b = 0) : a = 0 ∨ b = 0 := by
  by_cases ha : a.toNat = 0
  · exact .inl (UInt8.toNat_inj.1 ha)
  · by_cases hb : b.toNat = 0
    · exact .inr (UInt8.toNat_inj.1 hb)
    · exact absurd (by rw [← gmul_nat, h]; rfl) (gmN_nz ha hb)
theorem ginv_nat {a : UInt8} (h : a ≠ 0) : (ginv a).toNat = gexp ((255 - glog a.toNat) % 255) := by
  rw [ginv, if_neg h, UInt8.toNat_ofNat', Nat.mod_eq_of_lt (gexp_lt _)]
theorem gmul_ginv {a : UInt8} (h : a ≠ 0) : gmul a (ginv a) = 1 := by
  apply UInt8.toNat_inj.1
  have ha : a.toNat ≠ 0 := fun e => h (UInt8.toNat_inj.1 e)
  have hl := glog_lt a.toNat
  have h2 := log_exp (i := (255 - glog a.toNat) % 255) (Nat.mod_lt _ (by omega))
  rw [gmul_nat, ginv_nat h, gmN_ne ha h2.2, h2.1, show (glog a.toNat + (255 - glog a.toNat) % 255) % 255 = 0 from by omega, exp_zero]
  rfl
theorem ginv_gmul {a : UInt8} (h : a ≠ 0) : gmul (ginv a) a = 1 := by rw [gmul_comm, gmul_ginv h]
theorem ginv_ne {a : UInt8} (h : a ≠ 0) : ginv a ≠ 0 := fun e => by have := gmul_ginv h; rw [e, gmul_zero] at this; exact absurd this (by decide)
theorem rinv_eq (a : UInt8) : rinv a = ginv a := by
  by_cases h : a = 0
  · subst h
    have : (List.range 256).find? (fun b => decide (1 ≤ b) && (rmul 0 (UInt8.ofNat b) == 1)) = none := by
      rw [List.find?_eq_none]
      intro j _
      rw [rmul_eq, zero_gmul]
      simp
    rw [rinv, this]
    rfl
  · have key : ∀ j, j < 256 → rmul a (UInt8.ofNat j) = 1 → UInt8.ofNat j = ginv a := fun j hj e => by
      rw [rmul_eq] at e
      have : gmul (ginv a) (gmul a (UInt8.ofNat j)) = ginv a := by rw [e, gmul_one]
      rw [← gmul_assoc, ginv_gmul h, one_gmul] at this
      exact this
    have hex : ∃ b, (List.range 256).find? (fun b => decide (1 ≤ b) && (rmul a (UInt8.ofNat b) == 1)) = some b := by
      cases hf : (List.range 256).find? (fun b => decide (1 ≤ b) && (rmul a (UInt8.ofNat b) == 1)) with
      | some b => exact ⟨b, rfl⟩
      | none =>
        rw [List.find?_eq_none] at hf
        have hg := (ginv a).toNat_lt
        have h1 : 1 ≤ (ginv a).toNat := by
          have : (ginv a).toNat ≠ 0 := fun e => ginv_ne h (UInt8.toNat_inj.1 e)
          omega
        have := hf (ginv a).toNat (List.mem_range.2 hg)
        rw [UInt8.ofNat_toNat, rmul_eq, gmul_ginv h] at this
        simp [h1] at this
    obtain ⟨b, hb⟩ := hex
    rw [rinv, hb]
    have hp := List.find?_some hb
    have hm := List.mem_range.1 (List.mem_of_find?_eq_some hb)
    simp only [Bool.and_eq_true, decide_eq_true_eq, beq_iff_eq] at hp
    exact key b hm hp.2
end Go.Proofs.Ytgpkbldlkadnjaa
end
section
/- Plain: what 'awake' asks. -/
set_option linter.unusedVariables false
set_option maxHeartbeats 2000000
namespace Go.Proofs.Ytgpkbldlkadnjaa
open Go Go.Sl

end Go.Proofs.Ytgpkbldlkadnjaa
end
section
/- Walks: awake of layer 4. -/
set_option linter.unusedVariables false
set_option linter.unusedSimpArgs false
set_option maxHeartbeats 3000000
attribute [local irreducible] Go.Sl.Chk Go.Sl.Br Go.Sl.Ld Go.Sl.Ldn Go.Sl.LdB Go.Sl.Stn Go.Sl.New Go.Sl.Run Go.Sl.RunU Go.Sl.RunX Go.Sl.Call Go.Sl.LoopK Go.Sl.RawK Go.Sl.ev Go.Sl.eget
namespace Go.Proofs.Ytgpkbldlkadnjaa
open Go Go.Sl Go.RowKit

end Go.Proofs.Ytgpkbldlkadnjaa
end
