import Derived.Test.YthhjnbhknnnihaaProg
import Derived.Test.YthhjnbhknnnihaaWWords
import Derived.Test.YthhjnbhknnnihaaWLast
import Derived.Test.YthhjnbhknnnihaaWMore
import Derived.Deep.QuietTactic
import Derived.BigQuiet
import Derived.Deep.MidRow
import Derived.Deep.DeepCutAuto
set_option linter.unusedVariables false
set_option linter.unusedSimpArgs false
/-! General lemmas of this claim's walks: plain steps of operations, whole stores into a block, what a block's cells read. -/
namespace Go.Proofs.Ythhjnbhknnnihaa.Base
open Go.RowKit Go.Proofs.YthhjnbhknnnihaaW.PrintWords Go.Proofs.YthhjnbhknnnihaaW.PrintLast Go.Proofs.YthhjnbhknnnihaaW.PrintMore

/-- Operations without a guard, one behind the other, by their runs. -/
def opSteps (P : Program) : List Oper → Act → World → Option (Act × World)
  | [], a, w => some (a, w)
  | o :: r, a, w => if o.guard.isNone then
      (match (execOp a.eval o).run P w with
       | .ok (.value v) w' => opSteps P r (a.put o.dst v) w'
       | _ => none) else none
theorem wpList_opSteps {P : Program} {ops : Array Oper} {Q : Exit → Act → World → Prop} {rest : List Oper} : ∀ (l : List Oper) (a : Act) (w : World) (a' : Act) (w' : World),
    opSteps P l a w = some (a', w') → wpList P ops Q rest a' w' → wpList P ops Q (l ++ rest) a w
  | [], a, w, a', w', h, hq => by
    simp only [opSteps, Option.some.injEq, Prod.mk.injEq] at h
    obtain ⟨rfl, rfl⟩ := h
    exact hq
  | o :: r, a, w, a', w', h, hq => by
    unfold opSteps at h
    split at h
    · rename_i hg
      split at h
      · rename_i v w1 hrun
        exact Kd.event_run (Option.isNone_iff_eq_none.1 hg) hrun (wpList_opSteps r _ _ _ _ h hq)
      · cases h
    · cases h

theorem wpList_opStepsN {P : Program} {ops : Array Oper} {Q : Exit → Act → World → Prop} (n : Nat) {l : List Oper} {a : Act} {w : World} (a' : Act) (w' : World) {rest : List Oper}
    (h : opSteps P (l.take n) a w = some (a', w')) (hr : l.drop n = rest) (hq : wpList P ops Q rest a' w') : wpList P ops Q l a w := by
  have h2 := wpList_opSteps (rest := rest) (ops := ops) (Q := Q) _ _ _ _ _ h hq
  rw [← hr, List.take_append_drop] at h2
  exact h2

theorem heap_setCells (g : Nat) (t : TypeId) : ∀ (vs : List Value) (o : Nat) (w : World) (cs : Array Value), w.heap[g]? = some (.cells cs t (0, 0)) →
    ∃ cs', (w.setCells g o vs).heap[g]? = some (.cells cs' t (0, 0)) ∧ cs'.size = cs.size ∧ (∀ j, (j < o ∨ o + vs.length ≤ j) → cs'[j]? = cs[j]?) ∧ (∀ j, j < vs.length → o + j < cs.size → cs'[o + j]? = vs[j]?)
  | [], o, w, cs, h => ⟨cs, h, rfl, fun _ _ => rfl, fun j hj => absurd hj (Nat.not_lt_zero _)⟩
  | v :: r, o, w, cs, h => by
    obtain ⟨cs', h1, h2, h3, h4⟩ := heap_setCells g t r (o + 1) (w.setCell ⟨g, o, none⟩ v) _ (heap_setCell_same w g o cs t v h)
    refine ⟨cs', h1, by simpa using h2, fun j hj => ?_, fun j hj hs => ?_⟩
    · simp only [List.length_cons] at hj
      rw [h3 j (by omega), Array.getElem?_setIfInBounds_ne (by omega)]
    · cases j with
      | zero =>
        rw [h3 (o + 0) (by omega)]
        simp at hs
        simp [hs]
      | succ j =>
        have := h4 j (by simpa using hj) (by simp; omega)
        rw [show o + (j + 1) = o + 1 + j from by omega, this]
        simp
theorem heap_setCells_all (g : Nat) (t : TypeId) (vs : List Value) (w : World) (cs : Array Value) (h : w.heap[g]? = some (.cells cs t (0, 0))) (hl : vs.length = cs.size) :
    (w.setCells g 0 vs).heap[g]? = some (.cells vs.toArray t (0, 0)) := by
  obtain ⟨cs', h1, h2, _, h4⟩ := heap_setCells g t vs 0 w cs h
  rw [h1]
  congr 2
  apply Array.ext'
  apply List.ext_getElem?
  intro j
  by_cases hj : j < vs.length
  · have := h4 j hj (by omega)
    simpa using this
  · rw [List.getElem?_eq_none (by simp; omega), List.getElem?_eq_none (by simp; omega)]
theorem heap_setCells_other (g k : Nat) (hk : k ≠ g) : ∀ (vs : List Value) (o : Nat) (w : World), (w.setCells g o vs).heap[k]? = w.heap[k]?
  | [], _, _ => rfl
  | _ :: r, o, _ => by
    rw [World.setCells, heap_setCells_other g k hk r (o + 1) _, heap_setCell_other _ _ _ _ hk]
theorem below_setCells {B : Nat} {a : World} (g : Nat) (hg : B ≤ g) : ∀ (vs : List Value) (o : Nat) (w : World), Below B a w → Below B a (w.setCells g o vs)
  | [], _, _, h => h
  | v :: r, o, w, h => below_setCells g hg r (o + 1) _ (h.setCell hg _)

theorem szA (w : World) (o : Obj) : (w.alloc o).heap.size = w.heap.size + 1 := by show (w.heap.push o).size = _; simp
theorem there_of_block {w : World} {b : Nat} {t : TypeId} {cs : Array Value} (hb : w.heap[b]? = some (.cells cs t (0, 0))) {n : Nat} (hn : n = cs.size) : w.there b 0 n := by
  subst hn
  intro j hj
  refine ⟨?_, ?_⟩
  · simp [World.cell?, hb, hj]
  · simp [World.frozen?, hb]

end Go.Proofs.Ythhjnbhknnnihaa.Base
