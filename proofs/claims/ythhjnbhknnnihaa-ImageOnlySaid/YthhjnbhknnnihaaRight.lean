import Derived.Test.YthhjnbhknnnihaaOf
import Derived.Lib.OthersKept
set_option linter.unusedVariables false
set_option linter.unusedSimpArgs false
/-! isa.Right: whether it is an instruction. -/
namespace Go.Proofs.Ythhjnbhknnnihaa.Isa
open Go.RowKit Go.Proofs.YthhjnbhknnnihaaW.PrintWords Go.Proofs.YthhjnbhknnnihaaW.PrintLast Go.Proofs.YthhjnbhknnnihaaW.PrintMore Go.Proofs.Ythhjnbhknnnihaa.Base

def regOff (r : Int) : Nat := if r = 68 then 1 else if r = 65 then 2 else 3
set_option maxRecDepth 100000 in
set_option maxHeartbeats 1000000 in
theorem reg_D (g : Nat) (w : World) : Calls Try.prog 24 #[.pointer (some ⟨g, 0, none⟩), .int .i32 68] w fun e w' => e = .returned (.pointer (some ⟨g, 1, none⟩)) ∧ w = w' := by
  go_enter Try.func24, Try.ntmps24
  go_wp2
  go_ret
  exact ⟨rfl, rfl⟩
set_option maxRecDepth 100000 in
set_option maxHeartbeats 1000000 in
theorem reg_A (g : Nat) (w : World) : Calls Try.prog 24 #[.pointer (some ⟨g, 0, none⟩), .int .i32 65] w fun e w' => e = .returned (.pointer (some ⟨g, 2, none⟩)) ∧ w = w' := by
  go_enter Try.func24, Try.ntmps24
  go_wp2
  go_ret
  exact ⟨rfl, rfl⟩
set_option maxRecDepth 100000 in
set_option maxHeartbeats 1000000 in
theorem reg_B (g : Nat) (w : World) : Calls Try.prog 24 #[.pointer (some ⟨g, 0, none⟩), .int .i32 66] w fun e w' => e = .returned (.pointer (some ⟨g, 3, none⟩)) ∧ w = w' := by
  go_enter Try.func24, Try.ntmps24
  go_wp2
  go_ret
  exact ⟨rfl, rfl⟩

def regsOk : List UInt8 → Int → Int → Int → Bool
  | [], d, a, b => (d == 0) && ((a == 0) && (b == 0))
  | c :: r, d, a, b =>
    if c = 68 then (if d < 0 then false else if 31 < d then false else regsOk r 0 a b)
    else if c = 65 then (if a < 0 then false else if 31 < a then false else regsOk r d 0 b)
    else (if b < 0 then false else if 31 < b then false else regsOk r d a 0)
def rightF (f : ByteArray × ByteArray × Int × Int) (d a b n : Int) : Bool :=
  if f.1.toList.isEmpty = true then false else if n < f.2.2.1 then false else if f.2.2.2 < n then false else regsOk f.2.1.data.toList d a b
def regsB (R : ByteArray) : Prop := ∀ c ∈ R.data.toList, c = 68 ∨ c = 65 ∨ c = 66

set_option maxRecDepth 100000 in
set_option maxHeartbeats 4000000 in
theorem right_at (k d a b n lo hi : Int) (nm R : ByteArray) (h : Aside0 (ofI k n = (nm, R, lo, hi))) (hR : regsB R) (w : World) :
   Calls Try.prog 21 #[.agg #[.int .i64 k, .int .i64 d, .int .i64 a, .int .i64 b, .int .i64 n]] w fun e w' => e = .returned (.bool (rightF (ofI k n) d a b n)) ∧ Below w.heap.size w w' := by
  have hr : ∃ r, Aside0 (rightF (ofI k n) d a b n = r) := ⟨_, ⟨rfl⟩⟩
  obtain ⟨r, hr⟩ := hr
  rw [hr.out]
  rw [h.out] at hr
  go_enter Try.func21, Try.ntmps21
  go_wp2_with fail
  refine (of_calls _ _ _ _ _ _).mono ?_
  rintro e w1 ⟨rfl, hB⟩
  rw [h.out]
  have hb1 : w1.heap[w.heap.size]? = some (.cells #[.int .i64 k, .int .i64 d, .int .i64 a, .int .i64 b, .int .i64 n] 37 (0, 0)) := (hB.block _ (by simp only [szA]; omega)).trans (heap_alloc_new _ _)
  have hB1 := Aside0.mk (below_step (below_alloc (Below.refl _ _) _) hB : Below w.heap.size w w1)
  have hsz : w.heap.size < w1.heap.size := by have := hB.size; simp only [szA] at this; omega
  clear hB h
  simp only [formV]
  have hc10 := blk_cell hb1 0
  have hc11 := blk_cell hb1 1
  have hc12 := blk_cell hb1 2
  have hc13 := blk_cell hb1 3
  have hc14 := blk_cell hb1 4
  have H := hr.out
  clear hr
  simp only [rightF] at H
  by_cases e1 : nm.toList.isEmpty = true
  · rw [if_pos e1] at H
    have e1' : nm.toList.isEmpty = true := e1
    clear e1
    subst H
    go_wp2
    go_ret
    exact ⟨rfl, by with_reducible repeat (first | exact hB1.out | refine below_alloc ?_ _)⟩
  rw [if_neg e1] at H
  have e1' : nm.toList.isEmpty = false := by cases h : nm.toList.isEmpty with | true => exact absurd h e1 | false => rfl
  clear e1
  by_cases e2 : n < lo
  · rw [if_pos e2] at H
    have e2' : decide (n < lo) = true := decide_eq_true e2
    clear e2
    subst H
    go_wp2
    go_ret
    exact ⟨rfl, by with_reducible repeat (first | exact hB1.out | refine below_alloc ?_ _)⟩
  rw [if_neg e2] at H
  have e2' : decide (n < lo) = false := decide_eq_false e2
  clear e2
  by_cases e3 : hi < n
  · rw [if_pos e3] at H
    have e3' : decide (hi < n) = true := decide_eq_true e3
    clear e3
    subst H
    go_wp2
    go_ret
    exact ⟨rfl, by with_reducible repeat (first | exact hB1.out | refine below_alloc ?_ _)⟩
  rw [if_neg e3] at H
  have e3' : decide (hi < n) = false := decide_eq_false e3
  clear e3
  have H' := Aside0.mk H
  clear H
  have hRl := Aside0.mk hR
  clear hR
  go_wp2_with fail
  go_loopg [] R.data.toList.length (fun gk wr => ∃ (pos : Nat) (d' a' b' : Int), Aside0 (pos + gk = R.data.toList.length) ∧ Aside0 (regsOk (R.data.toList.drop pos) d' a' b' = r) ∧ Aside0 (wr.heap[w1.heap.size + 1 + 1]? = some (.stringIter R pos)) ∧ Aside0 (wr.heap[w1.heap.size + 1]? = some (.cells #[.int .i64 k, .int .i64 d', .int .i64 a', .int .i64 b', .int .i64 n] 37 (0, 0))) ∧ Aside0 (Below w.heap.size w wr))
  case atStart =>
    refine ⟨0, d, a, b, ⟨by omega⟩, ⟨by rw [List.drop_zero]; exact H'.out⟩, ⟨?_⟩, ⟨?_⟩, ⟨?_⟩⟩
    · have := World.iter_heap ((w1.alloc (.cells #[.string nm, .string R, .int .i64 lo, .int .i64 hi] 64)).alloc (.cells #[.int .i64 k, .int .i64 d, .int .i64 a, .int .i64 b, .int .i64 n] 37)) R 0
      simpa only [szA] using this
    · exact (_root_.Go.heap_alloc_old _ _ (by simp only [szA]; omega)).trans (heap_alloc2_new _ _ _)
    · exact below_alloc (below_alloc (below_alloc hB1.out _) _) _
  case round =>
    clear H'
    obtain ⟨pos, d', a', b', HL, HR, HI, HK, HB⟩ := hrel
    have hk0 := blk_cell HK.out 0
    have hk1 := blk_cell HK.out 1
    have hk2 := blk_cell HK.out 2
    have hk3 := blk_cell HK.out 3
    have hk4 := blk_cell HK.out 4
    have hf1 := blk_frozen HK.out 1
    have hf2 := blk_frozen HK.out 2
    have hf3 := blk_frozen HK.out 3
    have hsR : R.size = R.data.toList.length := Array.length_toList.symm
    cases gk with
    | zero =>
      have hnx := Lib.run_next_end_at (P := Try.prog) wr _ R pos 0 HI.out (by have := HL.out; omega)
      have H := HR.out
      rw [List.drop_eq_nil_of_le (by have := HL.out; omega)] at H
      simp only [regsOk] at H
      clear hsR
      by_cases q1 : (d' == 0) = true
      · by_cases q2 : (a' == 0) = true
        · rw [q1, q2] at H
          simp only [Bool.true_and] at H
          subst H
          go_wp2
          go_ret
          exact ⟨rfl, HB.out⟩
        · have q2' : (a' == 0) = false := by simpa using q2
          rw [q1, q2'] at H
          simp only [Bool.true_and, Bool.false_and] at H
          subst H
          clear q2
          go_wp2
          go_ret
          exact ⟨rfl, HB.out⟩
      · have q1' : (d' == 0) = false := by simpa using q1
        rw [q1'] at H
        simp only [Bool.false_and] at H
        subst H
        clear q1
        go_wp2
        go_ret
        exact ⟨rfl, HB.out⟩
    | succ gk =>
      have hpl : pos < R.data.toList.length := by have := HL.out; omega
      have hps : pos < R.size := by omega
      have H := HR.out
      rw [List.drop_eq_getElem_cons hpl] at H
      have hRb : (R[pos]'hps) = R.data.toList[pos] := rfl
      have hcs := hRl.out _ (List.getElem_mem hpl)
      rw [← hRb] at H hcs
      have hnx := Lib.run_next_ascii_at (P := Try.prog) wr _ R pos 0 HI.out hps (by rcases hcs with h | h | h <;> rw [h] <;> decide)
      have hHK : (wr.iterAt (w1.heap.size + 1 + 1) R (pos + 1)).heap[w1.heap.size + 1]? = some (.cells #[.int .i64 k, .int .i64 d', .int .i64 a', .int .i64 b', .int .i64 n] 37 (0, 0)) := (Lib.iterAt_other _ _ _ _ _ (by omega)).trans HK.out
      have hHI := Aside0.mk (Lib.iterAt_heap wr (w1.heap.size + 1 + 1) R pos (pos + 1) HI.out)
      have hHB := Aside0.mk (Lib.below_iterAt HB.out (k := w1.heap.size + 1 + 1) (by omega) R (pos + 1))
      clear hk0 hk1 hk2 hk3 hk4 hf1 hf2 hf3 hsR hRb HI HK HB HR
      generalize hW2 : wr.iterAt (w1.heap.size + 1 + 1) R (pos + 1) = W2 at *
      clear hW2
      have hk1 := blk_cell hHK 1
      have hk2 := blk_cell hHK 2
      have hk3 := blk_cell hHK 3
      have hf1 := blk_frozen hHK 1
      have hf2 := blk_frozen hHK 2
      have hf3 := blk_frozen hHK 3
      have hHK' := Aside0.mk hHK
      clear hHK
      generalize (R[pos]'hps) = c at *
      rcases hcs with rfl | rfl | rfl
      · simp only [regsOk] at H
        simp only [show (68 : UInt8) = 68 from rfl, if_true, show ¬ ((65 : UInt8) = 68) from by decide, show ¬ ((66 : UInt8) = 68) from by decide, show ¬ ((66 : UInt8) = 65) from by decide, if_false] at H
        by_cases r1 : d' < 0
        · rw [if_pos r1] at H
          have r1' : decide (d' < 0) = true := decide_eq_true r1
          clear r1
          subst H
          go_wp2
          go_ret
          exact ⟨rfl, hHB.out⟩
        rw [if_neg r1] at H
        have r1' : decide (d' < 0) = false := decide_eq_false r1
        clear r1
        by_cases r2 : 31 < d'
        · rw [if_pos r2] at H
          have r2' : decide (31 < d') = true := decide_eq_true r2
          clear r2
          subst H
          go_wp2
          go_ret
          exact ⟨rfl, hHB.out⟩
        rw [if_neg r2] at H
        have r2' : decide (31 < d') = false := decide_eq_false r2
        clear r2
        have H' := Aside0.mk H
        clear H
        go_wp2
        go_roundg gk
        case measure => omega
        case rel => exact ⟨pos + 1, 0, a', b', ⟨by have := HL.out; omega⟩, H', ⟨(heap_setCell_other _ _ _ _ (by simp)).trans hHI.out⟩, ⟨blk_put hHK'.out 1 _ rfl⟩, ⟨hHB.out.setCell (by simp; omega) _⟩⟩
      · simp only [regsOk] at H
        simp only [show (68 : UInt8) = 68 from rfl, if_true, show ¬ ((65 : UInt8) = 68) from by decide, show ¬ ((66 : UInt8) = 68) from by decide, show ¬ ((66 : UInt8) = 65) from by decide, if_false] at H
        by_cases r1 : a' < 0
        · rw [if_pos r1] at H
          have r1' : decide (a' < 0) = true := decide_eq_true r1
          clear r1
          subst H
          go_wp2
          go_ret
          exact ⟨rfl, hHB.out⟩
        rw [if_neg r1] at H
        have r1' : decide (a' < 0) = false := decide_eq_false r1
        clear r1
        by_cases r2 : 31 < a'
        · rw [if_pos r2] at H
          have r2' : decide (31 < a') = true := decide_eq_true r2
          clear r2
          subst H
          go_wp2
          go_ret
          exact ⟨rfl, hHB.out⟩
        rw [if_neg r2] at H
        have r2' : decide (31 < a') = false := decide_eq_false r2
        clear r2
        have H' := Aside0.mk H
        clear H
        go_wp2
        go_roundg gk
        case measure => omega
        case rel => exact ⟨pos + 1, d', 0, b', ⟨by have := HL.out; omega⟩, H', ⟨(heap_setCell_other _ _ _ _ (by simp)).trans hHI.out⟩, ⟨blk_put hHK'.out 2 _ rfl⟩, ⟨hHB.out.setCell (by simp; omega) _⟩⟩
      · simp only [regsOk] at H
        simp only [show (68 : UInt8) = 68 from rfl, if_true, show ¬ ((65 : UInt8) = 68) from by decide, show ¬ ((66 : UInt8) = 68) from by decide, show ¬ ((66 : UInt8) = 65) from by decide, if_false] at H
        by_cases r1 : b' < 0
        · rw [if_pos r1] at H
          have r1' : decide (b' < 0) = true := decide_eq_true r1
          clear r1
          subst H
          go_wp2
          go_ret
          exact ⟨rfl, hHB.out⟩
        rw [if_neg r1] at H
        have r1' : decide (b' < 0) = false := decide_eq_false r1
        clear r1
        by_cases r2 : 31 < b'
        · rw [if_pos r2] at H
          have r2' : decide (31 < b') = true := decide_eq_true r2
          clear r2
          subst H
          go_wp2
          go_ret
          exact ⟨rfl, hHB.out⟩
        rw [if_neg r2] at H
        have r2' : decide (31 < b') = false := decide_eq_false r2
        clear r2
        have H' := Aside0.mk H
        clear H
        go_wp2
        go_roundg gk
        case measure => omega
        case rel => exact ⟨pos + 1, d', a', 0, ⟨by have := HL.out; omega⟩, H', ⟨(heap_setCell_other _ _ _ _ (by simp)).trans hHI.out⟩, ⟨blk_put hHK'.out 3 _ rfl⟩, ⟨hHB.out.setCell (by simp; omega) _⟩⟩
end Go.Proofs.Ythhjnbhknnnihaa.Isa
