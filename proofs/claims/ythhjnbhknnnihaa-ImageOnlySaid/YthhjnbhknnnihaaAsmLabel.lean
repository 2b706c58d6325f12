import Derived.Test.YthhjnbhknnnihaaStrMap
import Derived.Test.YthhjnbhknnnihaaPImageOnlyx
set_option linter.unusedVariables false
set_option linter.unusedSimpArgs false
/-! asm.isLabel, asm.may, asm.goes as plain Lean functions. -/
namespace Go.Proofs.Ythhjnbhknnnihaa.Asm
open Go.RowKit Go.Proofs.YthhjnbhknnnihaaW.PrintWords Go.Proofs.YthhjnbhknnnihaaW.PrintLast Go.Proofs.YthhjnbhknnnihaaW.PrintMore Go.Proofs.Ythhjnbhknnnihaa.Base Go.Proofs.Ythhjnbhknnnihaa.PImageOnly

def okC (c : Int) : Bool := (decide (97 ≤ c) && decide (c ≤ 122)) || (decide (65 ≤ c) && decide (c ≤ 90)) || (decide (48 ≤ c) && decide (c ≤ 57)) || decide (c = 95)
def allOk (s : ByteArray) : Nat → Nat → Bool
  | _, 0 => true
  | i, n + 1 => okC (bt s (i : Int)) && allOk s (i + 1) n
def labelB (s : ByteArray) : Bool := allOk s 0 s.size && (!s.toList.isEmpty && decide (s.size ≤ 32))
theorem wrap_nat {i : Nat} {n : Nat} (h : i < n) (hn : n ≤ 9223372036854775807) : wrap64 ((i : Int) + 1) = ((i + 1 : Nat) : Int) := by
  unfold wrap64
  omega
theorem isLabel_l0 (s : ByteArray) (hn : s.size ≤ 9223372036854775807) : ∀ (n i k : Nat), i + n = s.size → n < k → asm_isLabel.l0 k s (s.size : Int) (i : Int) = some (allOk s i n && (!s.toList.isEmpty && decide (s.size ≤ 32)))
  | 0, i, k, hi, hk => by
    obtain ⟨k, rfl⟩ : ∃ m, k = m + 1 := ⟨k - 1, by omega⟩
    simp only [asm_isLabel.l0]
    rw [if_neg (by omega)]
    by_cases h : s.toList = []
    · rw [if_pos h]; simp [h]
    · rw [if_neg h]
      have he : s.toList.isEmpty = false := by cases hq : s.toList.isEmpty with | true => exact absurd (List.isEmpty_iff.1 hq) h | false => rfl
      rw [he]
      simp only [allOk, Bool.true_and, Bool.not_false]
      congr 1
      exact decide_eq_decide.2 (by omega)
  | n + 1, i, k, hi, hk => by
    obtain ⟨k, rfl⟩ : ∃ m, k = m + 1 := ⟨k - 1, by omega⟩
    have ih := isLabel_l0 s hn n (i + 1) k (by omega) (by omega)
    simp only [asm_isLabel.l0]
    rw [if_pos (by omega), if_pos (by omega), if_pos (by omega), wrap_nat (i := i) (n := s.size) (by omega) hn, ih]
    simp only [allOk, Bool.and_assoc]
    generalize (allOk s (i + 1) n && (!s.toList.isEmpty && decide (s.size ≤ 32))) = r at *
    generalize bt s (i : Int) = c
    clear ih
    cases hok : okC c with
    | true =>
      simp only [okC, Bool.or_eq_true, Bool.and_eq_true, decide_eq_true_eq] at hok
      rw [Bool.true_and]
      repeat' (first | rfl | (exfalso; omega) | split)
    | false =>
      simp only [okC, Bool.or_eq_false_iff, Bool.and_eq_false_iff, decide_eq_false_iff_not] at hok
      rw [Bool.false_and]
      repeat' (first | rfl | (exfalso; omega) | split)
theorem isLabel_calls (s : ByteArray) (hn : s.size ≤ 9223372036854775807) (w : World) : Calls Try.prog 25 #[.string s] w fun e w' => e = .returned (.bool (labelB s)) ∧ Drawn0 w w' :=
  asm_isLabel.calls (s.size + 1) s (labelB s) w (isLabel_l0 s hn s.size 0 (s.size + 1) (by omega) (by omega))
def mayB (s : ByteArray) : Bool := s.toList.isEmpty || labelB s
theorem may_calls (s : ByteArray) (hn : s.size ≤ 9223372036854775807) (w : World) : Calls Try.prog 19 #[.string s] w fun e w' => e = .returned (.bool (mayB s)) ∧ Drawn0 w w' := by
  refine asm_may.calls (s.size + 1) s (mayB s) w ?_
  unfold asm_may.f
  by_cases h : s.toList = []
  · rw [if_pos h]; simp [mayB, h]
  · rw [if_neg h, show asm_isLabel.f (s.size + 1) s = some (labelB s) from isLabel_l0 s hn s.size 0 (s.size + 1) (by omega) (by omega)]
    have he : s.toList.isEmpty = false := by cases hq : s.toList.isEmpty with | true => exact absurd (List.isEmpty_iff.1 hq) h | false => rfl
    simp [mayB, he]
def goesB (k : Int) : Bool := decide (k = 1) || decide (k = 19) || decide (k = 20) || decide (k = 21) || decide (k = 22)
theorem goes_calls (k : Int) (w : World) : Calls Try.prog 20 #[.int .i64 k] w fun e w' => e = .returned (.bool (goesB k)) ∧ Drawn0 w w' := by
  refine asm_goes.calls k (goesB k) w ?_
  unfold asm_goes.f goesB
  repeat' (first | split | (simp [*]; done))
  · simp [*]; rfl
end Go.Proofs.Ythhjnbhknnnihaa.Asm
