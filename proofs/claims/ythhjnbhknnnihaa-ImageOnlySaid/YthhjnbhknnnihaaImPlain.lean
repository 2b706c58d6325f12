import Derived.Test.YthhjnbhknnnihaaImKnows
import Derived.Laws.BitsAllLaws
set_option linter.unusedVariables false
set_option linter.unusedSimpArgs false
/-! What is taken is put just as it was: in plain Lean. -/
namespace Go.Proofs.Ythhjnbhknnnihaa.Im
open Go.RowKit Go.Proofs.YthhjnbhknnnihaaW.PrintWords Go.Proofs.YthhjnbhknnnihaaW.PrintLast Go.Proofs.YthhjnbhknnnihaaW.PrintMore Go.Proofs.Ythhjnbhknnnihaa.Base Go.Proofs.Ythhjnbhknnnihaa.PImageOnly
def isB (l : List Int) : Prop := ∀ x ∈ l, 0 ≤ x ∧ x < 256
theorem isB_drop {l : List Int} (h : isB l) (n : Nat) : isB (l.drop n) := fun x hx => h x (List.mem_of_mem_drop hx)
theorem or_add (a b i : Nat) (hb : b < 2 ^ i) : (a * 2 ^ i) ||| b = a * 2 ^ i + b := by
  rw [Nat.mul_comm, Nat.two_pow_add_eq_or_of_lt hb]
theorem be4_val (a b c d : Nat) (ha : a < 256) (hb : b < 256) (hc : c < 256) (hd : d < 256) : be4 a b c d = ((a * 16777216 + b * 65536 + c * 256 + d : Nat) : Int) := by
  unfold be4
  rw [show (a : Int) % 4294967296 * 16777216 % 4294967296 = ((a * 16777216 : Nat) : Int) by omega, show (b : Int) % 4294967296 * 65536 % 4294967296 = ((b * 65536 : Nat) : Int) by omega,
    show (c : Int) % 4294967296 * 256 % 4294967296 = ((c * 256 : Nat) : Int) by omega, show (d : Int) % 4294967296 = ((d : Nat) : Int) by omega]
  rw [u32_or_nat _ _ (by omega) (by omega), show a * 16777216 ||| b * 65536 = a * 16777216 + b * 65536 from or_add a (b * 65536) 24 (by omega)]
  rw [u32_or_nat _ _ (by omega) (by omega), show a * 16777216 + b * 65536 ||| c * 256 = a * 16777216 + b * 65536 + c * 256 from by
    have := or_add (a * 256 + b) (c * 256) 16 (by omega)
    rw [show (a * 256 + b) * 2 ^ 16 = a * 16777216 + b * 65536 by omega] at this
    exact this]
  rw [u32_or_nat _ _ (by omega) (by omega), show a * 16777216 + b * 65536 + c * 256 ||| d = a * 16777216 + b * 65536 + c * 256 + d from by
    have := or_add (a * 65536 + b * 256 + c) d 8 (by omega)
    rw [show (a * 65536 + b * 256 + c) * 2 ^ 8 = a * 16777216 + b * 65536 + c * 256 by omega] at this
    exact this]
theorem four_num4 {l : List Int} (h : isB l) (hl : 4 ≤ l.length) : four (num4 l) = l.take 4 := by
  match l, hl with
  | a :: b :: c :: d :: r, _ =>
    obtain ⟨ha0, ha⟩ := h a (by simp)
    obtain ⟨hb0, hb⟩ := h b (by simp)
    obtain ⟨hc0, hc⟩ := h c (by simp)
    obtain ⟨hd0, hd⟩ := h d (by simp)
    obtain ⟨a, rfl⟩ := Int.eq_ofNat_of_zero_le ha0
    obtain ⟨b, rfl⟩ := Int.eq_ofNat_of_zero_le hb0
    obtain ⟨c, rfl⟩ := Int.eq_ofNat_of_zero_le hc0
    obtain ⟨d, rfl⟩ := Int.eq_ofNat_of_zero_le hd0
    have hv := be4_val a b c d (by omega) (by omega) (by omega) (by omega)
    show four (be4 _ _ _ _) = _
    simp only [List.getD_cons_zero, List.getD_cons_succ]
    rw [hv]
    simp only [four, List.take_succ_cons, List.take_zero]
    congr 1
    · omega
    congr 1
    · omega
    congr 1
    · omega
    congr 1
    omega
theorem fours_nums4 : ∀ (n : Nat) (l : List Int), isB l → 4 * n ≤ l.length → fours (nums4 n l) = l.take (4 * n)
  | 0, l, _, _ => by simp [nums4, fours]
  | n + 1, l, h, hl => by
    rw [nums4, fours, four_num4 h (by omega), fours_nums4 n _ (isB_drop h 4) (by rw [List.length_drop]; omega)]
    rw [show 4 * (n + 1) = 4 + 4 * n by omega, List.take_add]
theorem nums4_len : ∀ (n : Nat) (l : List Int), (nums4 n l).length = n
  | 0, _ => rfl
  | n + 1, l => by rw [nums4, List.length_cons, nums4_len n]
theorem head_eq {l : List Int} (h : isB l) (hl : 4 ≤ l.length) (hm : ((strOfNums (l.take 4)).toList == mark) = true) : l.take 4 = headB := by
  match l, hl with
  | a :: b :: c :: d :: r, _ =>
    obtain ⟨ha0, ha⟩ := h a (by simp)
    obtain ⟨hb0, hb⟩ := h b (by simp)
    obtain ⟨hc0, hc⟩ := h c (by simp)
    obtain ⟨hd0, hd⟩ := h d (by simp)
    have he := eq_of_beq hm
    rw [ByteArray.toList_eq, strOfNums_data] at he
    simp only [List.take_succ_cons, List.take_zero, List.map_cons, List.map_nil, mark, List.cons.injEq, and_true] at he
    obtain ⟨e1, e2, e3, e4⟩ := he
    have k : ∀ (x : Int) (m : UInt8), 0 ≤ x → x < 256 → UInt8.ofNat x.toNat = m → x = (m.toNat : Int) := by
      intro x m h0 h1 e
      rw [← e, UInt8.toNat_ofNat']
      omega
    rw [k a _ ha0 ha e1, k b _ hb0 hb e2, k c _ hc0 hc e3, k d _ hd0 hd e4]
    rfl
theorem take_put (l : List Int) (h : isB l) (c : List Int) (e : Int) (ht : takeF l = (c, e, 0)) : putF c e = (l, 0) := by
  unfold takeF at ht
  by_cases h16 : l.length < 16
  · rw [if_pos h16] at ht; simp at ht
  rw [if_neg h16] at ht
  by_cases hm : ((strOfNums (l.take 4)).toList == mark) = true
  rotate_left
  · rw [if_neg hm] at ht; simp at ht
  rw [if_pos hm] at ht
  by_cases h1 : 16384 < num4 (l.drop 4)
  · rw [if_pos h1] at ht; simp at ht
  rw [if_neg h1] at ht
  by_cases h2 : ((l.length - 12 : Nat) : Int) ≠ 4 * num4 (l.drop 4) + 4
  · rw [if_pos h2] at ht; simp at ht
  rw [if_neg h2] at ht
  by_cases h3 : num4 (l.drop (12 + 4 * (num4 (l.drop 4)).toNat)) ≠ sumL (l.take (l.length - 4)) 1
  · rw [if_pos h3] at ht; simp at ht
  rw [if_neg h3] at ht
  by_cases h4 : rightImg (nums4 (num4 (l.drop 4)).toNat (l.drop 12)) (num4 (l.drop 8)) = true
  rotate_left
  · rw [if_neg h4] at ht; simp at ht
  rw [if_pos h4] at ht
  simp only [Prod.mk.injEq, and_true] at ht
  obtain ⟨rfl, rfl⟩ := ht
  have hn0 := (num4_range (l.drop 4)).1
  have h2' : ((l.length - 12 : Nat) : Int) = 4 * num4 (l.drop 4) + 4 := by omega
  have h3' : num4 (l.drop (12 + 4 * (num4 (l.drop 4)).toNat)) = sumL (l.take (l.length - 4)) 1 := by simpa using h3
  obtain ⟨n, hn⟩ := Int.eq_ofNat_of_zero_le hn0
  have hl : l.length = 16 + 4 * n := by omega
  have hnn : (num4 (l.drop 4)).toNat = n := by omega
  rw [hnn] at h3' h4 ⊢
  have hput : putB (nums4 n (l.drop 12)) (num4 (l.drop 8)) = l.take (l.length - 4) := by
    unfold putB
    rw [nums4_len, ← hn, fours_nums4 n _ (isB_drop h 12) (by rw [List.length_drop]; omega)]
    simp only [fours, List.append_nil]
    rw [four_num4 (isB_drop h 4) (by rw [List.length_drop]; omega), four_num4 (isB_drop h 8) (by rw [List.length_drop]; omega), ← head_eq h (by omega) hm]
    rw [show l.length - 4 = 4 + (4 + (4 + 4 * n)) by omega, List.take_add, List.take_add, List.take_add, List.drop_drop, List.drop_drop]
    simp [List.append_assoc]
  unfold putF
  rw [if_pos h4, hput]
  simp only [Prod.mk.injEq, and_true]
  rw [← h3', show 12 + 4 * n = l.length - 4 by omega]
  simp only [fours, List.append_nil]
  rw [four_num4 (isB_drop h _) (by rw [List.length_drop]; omega), List.take_of_length_le (l := l.drop (l.length - 4)) (i := 4) (by rw [List.length_drop]; omega), List.take_append_drop]
theorem take_none (l : List Int) (ht : (takeF l).2.2 ≠ 0) : (takeF l).1 = [] := by
  revert ht
  unfold takeF
  repeat' split
  all_goals simp
end Go.Proofs.Ythhjnbhknnnihaa.Im
