import Derived.Test.YthhjnbhknnnihaaBase
set_option linter.unusedVariables false
set_option linter.unusedSimpArgs false
/-! A map from strings to ints that a call makes: its entries as a list; look-up, a new key. -/
namespace Go.Proofs.Ythhjnbhknnnihaa.Base
open Go.RowKit Go.Proofs.YthhjnbhknnnihaaW.PrintWords Go.Proofs.YthhjnbhknnnihaaW.PrintLast Go.Proofs.YthhjnbhknnnihaaW.PrintMore

theorem ba_beq1 (a b : ByteArray) : (a == b) = true ↔ a = b := by
  obtain ⟨x⟩ := a
  obtain ⟨y⟩ := b
  constructor
  · intro h
    have e : x = y := by simpa using (show (x == y) = true from h)
    rw [e]
  · intro h
    cases h
    show (x == x) = true
    simp
theorem ba_beq (a b : ByteArray) : (a == b) = decide (a = b) := by
  by_cases h : a = b
  · rw [decide_eq_true h]; exact (ba_beq1 a b).2 h
  · rw [decide_eq_false h]
    cases hb : (a == b) with
    | true => exact absurd ((ba_beq1 a b).1 hb) h
    | false => rfl
def lk : List (ByteArray × Int) → ByteArray → Option Int
  | [], _ => none
  | p :: r, s => if s = p.1 then some p.2 else lk r s
def entryOf (e : MapEntry) : Value × Value := (e.key, e.val)
def StrMap (w : World) (b : Nat) (L : List (ByteArray × Int)) : Prop :=
  ∃ es clock, w.heap[b]? = some (.map es clock) ∧ es.toList.map entryOf = L.map (fun p => (Value.string p.1, Value.int .i64 p.2))
theorem StrMap.keep {w w' : World} {b : Nat} {L : List (ByteArray × Int)} (h : StrMap w b L) (he : w'.heap[b]? = w.heap[b]?) : StrMap w' b L := by
  obtain ⟨es, cl, h1, h2⟩ := h
  exact ⟨es, cl, he.trans h1, h2⟩
theorem StrMap.lt {w : World} {b : Nat} {L : List (ByteArray × Int)} (h : StrMap w b L) : b < w.heap.size := by
  obtain ⟨es, cl, h1, _⟩ := h
  exact (Array.getElem?_eq_some_iff.1 h1).1
theorem StrMap.below {w w' : World} {b : Nat} {L : List (ByteArray × Int)} (h : StrMap w b L) (hb : Below w.heap.size w w') : StrMap w' b L := h.keep (hb.block _ h.lt)
theorem StrMap.alloc {w : World} {b : Nat} {L : List (ByteArray × Int)} (h : StrMap w b L) (o : Obj) : StrMap (w.alloc o) b L := h.below (below_alloc (Below.refl _ _) o)
theorem findNow_str (s : ByteArray) : ∀ (es : List MapEntry) (L : List (ByteArray × Int)) (i : Nat), es.map entryOf = L.map (fun p => (Value.string p.1, Value.int .i64 p.2)) →
    (lk L s = none → Instr.findNow .string (.string s) es i = some none) ∧ (∀ v, lk L s = some v → ∃ j, Instr.findNow .string (.string s) es i = some (some (j, .int .i64 v)))
  | [], [], i, _ => ⟨fun _ => rfl, fun v h => by simp [lk] at h⟩
  | [], _ :: _, i, h => by simp at h
  | _ :: _, [], i, h => by simp at h
  | e :: es, p :: L, i, h => by
    simp only [List.map_cons, List.cons.injEq, entryOf, Prod.mk.injEq] at h
    obtain ⟨⟨hk, hv⟩, ht⟩ := h
    have ih := findNow_str s es L (i + 1) ht
    simp only [Instr.findNow, hk, Instr.sameNow, lk]
    by_cases hs : s = p.1
    · subst hs
      simp [hv, ba_beq]
    · have : (s == p.1) = false := by rw [ba_beq, decide_eq_false hs]
      rw [if_neg hs, this]
      exact ih
section
variable {P : Program} {T K E : TypeId}
theorem run_lookup_str (hT : P.underlying T = some (.map K E)) (hK : P.underlying K = some .string) (hE : P.underlying E = some (.int .i64)) (hz : ∀ w : World, (zeroValue E).run P w = .ok (.int .i64 0) w)
    {w : World} {b : Nat} {L : List (ByteArray × Int)} (h : StrMap w b L) (s : ByteArray) :
    (Instr.lookup T (.map (some b)) (.string s) true).run P w = .ok (.tuple #[.int .i64 ((lk L s).getD 0), .bool (lk L s).isSome]) w ∧
    (Instr.lookup T (.map (some b)) (.string s) false).run P w = .ok (.int .i64 ((lk L s).getD 0)) w := by
  obtain ⟨es, cl, h1, h2⟩ := h
  have hf := findNow_str s es.toList L 0 h2
  have hck : ∀ em, (Instr.checkKey em 10000 K (.string s)).run P w = .ok () w := by
    intro em
    unfold Instr.checkKey
    simp [Sem.run_bind, run_underlying hK]
  cases hl : lk L s with
  | none =>
    have hfk : (Instr.findKey K (.string s) es.toList).run P w = .ok none w := by
      unfold Instr.findKey
      simp [Sem.run_bind, run_underlying hK, hf.1 hl]
    constructor <;> (simp only [Instr.lookup, Sem.run_bind, run_underlying hT, getObj, Sem.run, h1, Result.andThen]; simp [hck, hfk, hz])
  | some v =>
    obtain ⟨j, hj⟩ := hf.2 v hl
    have hfk : (Instr.findKey K (.string s) es.toList).run P w = .ok (some (j, .int .i64 v)) w := by
      unfold Instr.findKey
      simp [Sem.run_bind, run_underlying hK, hj]
    constructor <;> (simp only [Instr.lookup, Sem.run_bind, run_underlying hT, getObj, Sem.run, h1, Result.andThen]; simp [hck, hfk, hz])
def mapPut (w : World) (b : Nat) (es : Array MapEntry) (cl : Nat) : World := { w with heap := w.heap.setIfInBounds b (.map es cl) }
theorem mapPut_other (w : World) (b j : Nat) (es : Array MapEntry) (cl : Nat) (h : j ≠ b) : (mapPut w b es cl).heap[j]? = w.heap[j]? := by simp [mapPut, Ne.symm h]
theorem below_mapPut {B : Nat} {a w : World} (h : Below B a w) {b : Nat} (hb : B ≤ b) (es : Array MapEntry) (cl : Nat) : Below B a (mapPut w b es cl) :=
  h.trans ⟨rfl, rfl, rfl, by simp [mapPut], fun i hi => mapPut_other w b i es cl (by omega)⟩
/-- A key that is not there yet. -/
theorem run_mapUpdate_str (hT : P.underlying T = some (.map K E)) (hK : P.underlying K = some .string)
    {w : World} {b : Nat} {L : List (ByteArray × Int)} (h : StrMap w b L) (s : ByteArray) (hn : lk L s = none) (v : Int) :
    ∃ w1, (Instr.mapUpdate T (.map (some b)) (.string s) (.int .i64 v)).run P w = .ok () w1 ∧ StrMap w1 b (L ++ [(s, v)]) ∧ (∀ B a, Below B a w → B ≤ b → Below B a w1) ∧ (∀ j, j ≠ b → w1.heap[j]? = w.heap[j]?) := by
  obtain ⟨es, cl, h1, h2⟩ := h
  have hf := (findNow_str s es.toList L 0 h2).1 hn
  have hck : ∀ em, (Instr.checkKey em 10000 K (.string s)).run P w = .ok () w := by
    intro em
    unfold Instr.checkKey
    simp [Sem.run_bind, run_underlying hK]
  have hfk : (Instr.findKey K (.string s) es.toList).run P w = .ok none w := by
    unfold Instr.findKey
    simp [Sem.run_bind, run_underlying hK, hf]
  have hlt : b < w.heap.size := (Array.getElem?_eq_some_iff.1 h1).1
  refine ⟨mapPut w b (es.push { key := .string s, val := .int .i64 v, born := cl }) (cl + 1), ?_, ⟨_, _, by simp [mapPut, hlt]; exact ⟨rfl, rfl⟩, ?_⟩, fun B a hB hb => below_mapPut hB hb _ _, fun j hj => mapPut_other _ _ _ _ _ hj⟩
  · simp only [Instr.mapUpdate, Sem.run_bind, run_underlying hT, getObj, Sem.run, h1, Result.andThen, hck, hfk]
    simp [setObj, Sem.run, mapPut, h1]
  · rw [Array.toList_push, List.map_append, h2, List.map_append]
    rfl
theorem strMap_made (w : World) : StrMap (w.alloc (.map #[] 0)) w.heap.size [] := ⟨#[], 0, heap_alloc_new w _, rfl⟩
end
end Go.Proofs.Ythhjnbhknnnihaa.Base
