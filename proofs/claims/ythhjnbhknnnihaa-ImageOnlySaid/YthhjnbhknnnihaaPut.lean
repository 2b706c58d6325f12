import Derived.Test.YthhjnbhknnnihaaRight
import Derived.Lib.OthersKept
set_option linter.unusedVariables false
set_option linter.unusedSimpArgs false
/-! isa.bits, isa.Put: an instruction as a word. -/
namespace Go.Proofs.Ythhjnbhknnnihaa.Isa
open Go.RowKit Go.Proofs.YthhjnbhknnnihaaW.PrintWords Go.Proofs.YthhjnbhknnnihaaW.PrintLast Go.Proofs.YthhjnbhknnnihaaW.PrintMore Go.Proofs.Ythhjnbhknnnihaa.Base

theorem formOf_regs : (List.range 25).all (fun n => (formOf n).2.1.data.toList.all (fun c => c == 68 || c == 65 || c == 66)) = true := by decide
theorem regsB_of {R : ByteArray} (h : R.data.toList.all (fun c => c == 68 || c == 65 || c == 66) = true) : regsB R := by
  intro c hc
  have := List.all_eq_true.1 h c hc
  simpa [or_assoc] using this
theorem formI_regs (k : Int) : regsB (formI k).2.1 := by
  by_cases h : k < 0 ∨ 25 ≤ k
  · rw [formI_out k h]
    intro c hc
    cases hc
  · obtain ⟨n, rfl⟩ := Int.eq_ofNat_of_zero_le (by omega : 0 ≤ k)
    rw [formI_nat]
    exact regsB_of (List.all_eq_true.1 formOf_regs n (List.mem_range.2 (by omega)))
theorem ofI_regs (k n : Int) : regsB (ofI k n).2.1 := by
  unfold ofI
  split
  · show regsB (sysRegs n)
    unfold sysRegs
    split
    · exact regsB_of (by decide)
    · split <;> exact regsB_of (by decide)
  · exact formI_regs k
def rightI (k d a b n : Int) : Bool := rightF (ofI k n) d a b n
theorem right_calls (k d a b n : Int) (w : World) :
   Calls Try.prog 21 #[.agg #[.int .i64 k, .int .i64 d, .int .i64 a, .int .i64 b, .int .i64 n]] w fun e w' => e = .returned (.bool (rightI k d a b n)) ∧ Below w.heap.size w w' := by
  obtain ⟨f, hf⟩ : ∃ f, ofI k n = f := ⟨_, rfl⟩
  obtain ⟨nm, R, lo, hi⟩ := f
  exact right_at k d a b n lo hi nm R ⟨hf⟩ (by have := ofI_regs k n; rw [hf] at this; exact this) w

def bitsI (k : Int) : Int := if k = 22 then 21 else 16
set_option maxHeartbeats 400000 in
theorem bits_calls (k : Int) (w : World) : Calls Try.prog 22 #[.int .i64 k] w fun e w' => e = .returned (.int .i64 (bitsI k)) ∧ w' = w := by
  by_cases h : k = 22
  · subst h
    go_enter Try.func22, Try.ntmps22
    go_wp2
    go_ret
    exact ⟨rfl, rfl⟩
  · have hE := Aside0.mk (show bitsI k = 16 from if_neg h)
    have h' : (k == 22) = false := by simp [h]
    clear h
    go_enter Try.func22, Try.ntmps22
    go_wp2
    go_ret
    exact ⟨by rw [hE.out]; rfl, rfl⟩

def orW (x y : Int) : Int := bits .or .u32 x y
def fldW (c : UInt8) (d a b : Int) : Int := if c = 68 then d else if c = 65 then a else b
def putLoop (d a b : Int) : List UInt8 → Int → Int → Int
  | [], _, acc => acc
  | c :: r, pos, acc => putLoop d a b r (pos - 5) (bits .or .u32 acc (fldW c d a b % 4294967296 * 2 ^ pos.toNat % 4294967296))

set_option maxRecDepth 100000 in
set_option maxHeartbeats 4000000 in
theorem put_yes21 (k d a b n lo hi : Int) (nm R : ByteArray) (h : Aside0 (ofI k n = (nm, R, lo, hi))) (hR : regsB R) (hb : Aside0 (bitsI k = 21)) (h3 : R.data.toList.length ≤ 4) (ht : Aside0 (rightI k d a b n = true)) (w : World) :
   Calls Try.prog 18 #[.agg #[.int .i64 k, .int .i64 d, .int .i64 a, .int .i64 b, .int .i64 n]] w fun e w' => e = .returned (.tuple #[.int .u32 (putLoop d a b R.data.toList 21 (bits .or .u32 (k % 4294967296 * 67108864 % 4294967296) (bits .and .u32 (n % 4294967296) 2097151))), .int .i64 0]) ∧ Below w.heap.size w w' := by
  have hr : ∃ r, Aside0 (putLoop d a b R.data.toList 21 (bits .or .u32 (k % 4294967296 * 67108864 % 4294967296) (bits .and .u32 (n % 4294967296) 2097151)) = r) := ⟨_, ⟨rfl⟩⟩
  obtain ⟨r, hr⟩ := hr
  rw [hr.out]
  have hbc : ∀ W, Calls Try.prog 22 #[.int .i64 k] W fun e w' => e = .returned (.int .i64 21) ∧ w' = W := fun W => by have := bits_calls k W; rw [hb.out] at this; exact this
  have hbc := Aside0.mk hbc
  have hfd : ∀ (x y z t : Value) (W : World), (Instr.field 64 (.agg #[x, y, z, t]) 1).run Try.prog W = .ok y W := fun _ _ _ _ _ => by kernel_rfl
  go_enter Try.func18, Try.ntmps18
  go_wp2_with fail
  refine (right_calls _ _ _ _ _ _).mono ?_
  rintro e w1 ⟨rfl, hB⟩
  rw [ht.out]
  have hb1 : w1.heap[w.heap.size]? = some (.cells #[.int .i64 k, .int .i64 d, .int .i64 a, .int .i64 b, .int .i64 n] 37 (0, 0)) := (hB.block _ (by simp only [szA]; omega)).trans (heap_alloc_new _ _)
  have hB1 := Aside0.mk (below_step (below_alloc (Below.refl _ _) _) hB : Below w.heap.size w w1)
  have hsz : w.heap.size < w1.heap.size := by have := hB.size; simp only [szA] at this; omega
  clear hB
  have hc10 := blk_cell hb1 0
  have hc11 := blk_cell hb1 1
  have hc12 := blk_cell hb1 2
  have hc13 := blk_cell hb1 3
  have hc14 := blk_cell hb1 4
  go_wp2_with fail
  go_quiet ((go_at_call 22; exact Calls.quiet_of_same (hbc.out _)))
  go_wp2_with fail
  refine (of_calls _ _ _ _ _ _).mono ?_
  rintro e w2 ⟨rfl, hB⟩
  rw [h.out]
  have hb2 : w2.heap[w.heap.size]? = some (.cells #[.int .i64 k, .int .i64 d, .int .i64 a, .int .i64 b, .int .i64 n] 37 (0, 0)) := (hB.block _ hsz).trans hb1
  have hB2 := Aside0.mk (below_step (pw_below_drewN hB1.out _) hB : Below w.heap.size w w2)
  have hsz2 : w.heap.size < w2.heap.size := Nat.lt_of_lt_of_le hsz hB.size
  clear hB hc10 hc11 hc12 hc13 hc14 hb1 hB1 hsz
  simp only [formV]
  have hc11 := blk_cell hb2 1
  have hc12 := blk_cell hb2 2
  have hc13 := blk_cell hb2 3
  have hRl := Aside0.mk hR
  have h3l := Aside0.mk h3
  clear hR h3 hb h ht
  go_wp2_with fail
  generalize bits .or .u32 (k % 4294967296 * 67108864 % 4294967296) (bits .and .u32 (n % 4294967296) 2097151) = acc0 at *
  go_loopg [4, 5] R.data.toList.length (fun gk v4 v5 wr => ∃ (pos : Nat) (acc p : Int), v4 = .int .u32 acc ∧ v5 = .int .i64 p ∧ Aside0 (pos + gk = R.data.toList.length) ∧ Aside0 (p = 21 - 5 * (pos : Int)) ∧ Aside0 (putLoop d a b (R.data.toList.drop pos) p acc = r) ∧ Aside0 (wr.heap[w2.heap.size]? = some (.stringIter R pos)) ∧ Aside0 (wr.heap[w.heap.size]? = some (.cells #[.int .i64 k, .int .i64 d, .int .i64 a, .int .i64 b, .int .i64 n] 37 (0, 0))) ∧ Aside0 (Below w.heap.size w wr))
  case atStart =>
    refine ⟨0, acc0, 21, rfl, rfl, ⟨by omega⟩, ⟨by omega⟩, ⟨by rw [List.drop_zero]; exact hr.out⟩, ⟨?_⟩, ⟨?_⟩, ⟨?_⟩⟩
    · exact World.iter_heap w2 R 0
    · exact (_root_.Go.heap_alloc_old _ _ hsz2).trans hb2
    · exact below_alloc hB2.out _
  case round =>
    clear hr
    obtain ⟨pos, acc, p, rfl, rfl, HL, HP, HR, HI, HK, HB⟩ := hrel
    have hk1 := blk_cell HK.out 1
    have hk2 := blk_cell HK.out 2
    have hk3 := blk_cell HK.out 3
    have hsR : R.size = R.data.toList.length := Array.length_toList.symm
    cases gk with
    | zero =>
      have hnx := Lib.run_next_end_at (P := Try.prog) wr _ R pos 0 HI.out (by have := HL.out; omega)
      have H := HR.out
      rw [List.drop_eq_nil_of_le (by have := HL.out; omega)] at H
      simp only [putLoop] at H
      clear hsR
      subst H
      go_wp2
      go_ret2
      exact ⟨rfl, HB.out⟩
    | succ gk =>
      have hpl : pos < R.data.toList.length := by have := HL.out; omega
      have hps : pos < R.size := by omega
      have H := HR.out
      rw [List.drop_eq_getElem_cons hpl] at H
      simp only [putLoop] at H
      have hRb : (R[pos]'hps) = R.data.toList[pos] := rfl
      have hcs := hRl.out _ (List.getElem_mem hpl)
      rw [← hRb] at H hcs
      have hnx := Lib.run_next_ascii_at (P := Try.prog) wr _ R pos 0 HI.out hps (by rcases hcs with h | h | h <;> rw [h] <;> decide)
      have hHK : (wr.iterAt (w2.heap.size) R (pos + 1)).heap[w.heap.size]? = some (.cells #[.int .i64 k, .int .i64 d, .int .i64 a, .int .i64 b, .int .i64 n] 37 (0, 0)) := (Lib.iterAt_other _ _ _ _ _ (by omega)).trans HK.out
      have hHI := Aside0.mk (Lib.iterAt_heap wr (w2.heap.size) R pos (pos + 1) HI.out)
      have hHB := Aside0.mk (Lib.below_iterAt HB.out (k := w2.heap.size) (by omega) R (pos + 1))
      clear hk1 hk2 hk3 hsR hRb HI HK HB HR
      generalize hW2 : wr.iterAt (w2.heap.size) R (pos + 1) = W2 at *
      clear hW2
      have hk1 := blk_cell hHK 1
      have hk2 := blk_cell hHK 2
      have hk3 := blk_cell hHK 3
      have hHK' := Aside0.mk hHK
      clear hHK
      generalize (R[pos]'hps) = c at *
      have p0 : 0 ≤ p := by have := HL.out; have := HP.out; have := h3l.out; omega
      have p1 : p ≤ 21 := by have := HL.out; have := HP.out; omega
      have HP' := Aside0.mk (show p - 5 = 21 - 5 * ((pos + 1 : Nat) : Int) by have := HP.out; omega)
      clear HP hpl hps
      rcases hcs with rfl | rfl | rfl
      all_goals
        go_wp2
        go_roundg gk
        case measure => omega
        case rel => exact ⟨pos + 1, _, p - 5, rfl, rfl, ⟨by have := HL.out; omega⟩, HP', ⟨by first | exact H | (simpa [fldW] using H)⟩, hHI, hHK', hHB⟩
set_option maxRecDepth 100000 in
set_option maxHeartbeats 4000000 in
theorem put_yes16 (k d a b n lo hi : Int) (nm R : ByteArray) (h : Aside0 (ofI k n = (nm, R, lo, hi))) (hR : regsB R) (hb : Aside0 (bitsI k = 16)) (h3 : R.data.toList.length ≤ 4) (ht : Aside0 (rightI k d a b n = true)) (w : World) :
   Calls Try.prog 18 #[.agg #[.int .i64 k, .int .i64 d, .int .i64 a, .int .i64 b, .int .i64 n]] w fun e w' => e = .returned (.tuple #[.int .u32 (putLoop d a b R.data.toList 21 (bits .or .u32 (k % 4294967296 * 67108864 % 4294967296) (bits .and .u32 (n % 4294967296) 65535))), .int .i64 0]) ∧ Below w.heap.size w w' := by
  have hr : ∃ r, Aside0 (putLoop d a b R.data.toList 21 (bits .or .u32 (k % 4294967296 * 67108864 % 4294967296) (bits .and .u32 (n % 4294967296) 65535)) = r) := ⟨_, ⟨rfl⟩⟩
  obtain ⟨r, hr⟩ := hr
  rw [hr.out]
  have hbc : ∀ W, Calls Try.prog 22 #[.int .i64 k] W fun e w' => e = .returned (.int .i64 16) ∧ w' = W := fun W => by have := bits_calls k W; rw [hb.out] at this; exact this
  have hbc := Aside0.mk hbc
  have hfd : ∀ (x y z t : Value) (W : World), (Instr.field 64 (.agg #[x, y, z, t]) 1).run Try.prog W = .ok y W := fun _ _ _ _ _ => by kernel_rfl
  go_enter Try.func18, Try.ntmps18
  go_wp2_with fail
  refine (right_calls _ _ _ _ _ _).mono ?_
  rintro e w1 ⟨rfl, hB⟩
  rw [ht.out]
  have hb1 : w1.heap[w.heap.size]? = some (.cells #[.int .i64 k, .int .i64 d, .int .i64 a, .int .i64 b, .int .i64 n] 37 (0, 0)) := (hB.block _ (by simp only [szA]; omega)).trans (heap_alloc_new _ _)
  have hB1 := Aside0.mk (below_step (below_alloc (Below.refl _ _) _) hB : Below w.heap.size w w1)
  have hsz : w.heap.size < w1.heap.size := by have := hB.size; simp only [szA] at this; omega
  clear hB
  have hc10 := blk_cell hb1 0
  have hc11 := blk_cell hb1 1
  have hc12 := blk_cell hb1 2
  have hc13 := blk_cell hb1 3
  have hc14 := blk_cell hb1 4
  go_wp2_with fail
  go_quiet ((go_at_call 22; exact Calls.quiet_of_same (hbc.out _)))
  go_wp2_with fail
  refine (of_calls _ _ _ _ _ _).mono ?_
  rintro e w2 ⟨rfl, hB⟩
  rw [h.out]
  have hb2 : w2.heap[w.heap.size]? = some (.cells #[.int .i64 k, .int .i64 d, .int .i64 a, .int .i64 b, .int .i64 n] 37 (0, 0)) := (hB.block _ hsz).trans hb1
  have hB2 := Aside0.mk (below_step (pw_below_drewN hB1.out _) hB : Below w.heap.size w w2)
  have hsz2 : w.heap.size < w2.heap.size := Nat.lt_of_lt_of_le hsz hB.size
  clear hB hc10 hc11 hc12 hc13 hc14 hb1 hB1 hsz
  simp only [formV]
  have hc11 := blk_cell hb2 1
  have hc12 := blk_cell hb2 2
  have hc13 := blk_cell hb2 3
  have hRl := Aside0.mk hR
  have h3l := Aside0.mk h3
  clear hR h3 hb h ht
  go_wp2_with fail
  generalize bits .or .u32 (k % 4294967296 * 67108864 % 4294967296) (bits .and .u32 (n % 4294967296) 65535) = acc0 at *
  go_loopg [4, 5] R.data.toList.length (fun gk v4 v5 wr => ∃ (pos : Nat) (acc p : Int), v4 = .int .u32 acc ∧ v5 = .int .i64 p ∧ Aside0 (pos + gk = R.data.toList.length) ∧ Aside0 (p = 21 - 5 * (pos : Int)) ∧ Aside0 (putLoop d a b (R.data.toList.drop pos) p acc = r) ∧ Aside0 (wr.heap[w2.heap.size]? = some (.stringIter R pos)) ∧ Aside0 (wr.heap[w.heap.size]? = some (.cells #[.int .i64 k, .int .i64 d, .int .i64 a, .int .i64 b, .int .i64 n] 37 (0, 0))) ∧ Aside0 (Below w.heap.size w wr))
  case atStart =>
    refine ⟨0, acc0, 21, rfl, rfl, ⟨by omega⟩, ⟨by omega⟩, ⟨by rw [List.drop_zero]; exact hr.out⟩, ⟨?_⟩, ⟨?_⟩, ⟨?_⟩⟩
    · exact World.iter_heap w2 R 0
    · exact (_root_.Go.heap_alloc_old _ _ hsz2).trans hb2
    · exact below_alloc hB2.out _
  case round =>
    clear hr
    obtain ⟨pos, acc, p, rfl, rfl, HL, HP, HR, HI, HK, HB⟩ := hrel
    have hk1 := blk_cell HK.out 1
    have hk2 := blk_cell HK.out 2
    have hk3 := blk_cell HK.out 3
    have hsR : R.size = R.data.toList.length := Array.length_toList.symm
    cases gk with
    | zero =>
      have hnx := Lib.run_next_end_at (P := Try.prog) wr _ R pos 0 HI.out (by have := HL.out; omega)
      have H := HR.out
      rw [List.drop_eq_nil_of_le (by have := HL.out; omega)] at H
      simp only [putLoop] at H
      clear hsR
      subst H
      go_wp2
      go_ret2
      exact ⟨rfl, HB.out⟩
    | succ gk =>
      have hpl : pos < R.data.toList.length := by have := HL.out; omega
      have hps : pos < R.size := by omega
      have H := HR.out
      rw [List.drop_eq_getElem_cons hpl] at H
      simp only [putLoop] at H
      have hRb : (R[pos]'hps) = R.data.toList[pos] := rfl
      have hcs := hRl.out _ (List.getElem_mem hpl)
      rw [← hRb] at H hcs
      have hnx := Lib.run_next_ascii_at (P := Try.prog) wr _ R pos 0 HI.out hps (by rcases hcs with h | h | h <;> rw [h] <;> decide)
      have hHK : (wr.iterAt (w2.heap.size) R (pos + 1)).heap[w.heap.size]? = some (.cells #[.int .i64 k, .int .i64 d, .int .i64 a, .int .i64 b, .int .i64 n] 37 (0, 0)) := (Lib.iterAt_other _ _ _ _ _ (by omega)).trans HK.out
      have hHI := Aside0.mk (Lib.iterAt_heap wr (w2.heap.size) R pos (pos + 1) HI.out)
      have hHB := Aside0.mk (Lib.below_iterAt HB.out (k := w2.heap.size) (by omega) R (pos + 1))
      clear hk1 hk2 hk3 hsR hRb HI HK HB HR
      generalize hW2 : wr.iterAt (w2.heap.size) R (pos + 1) = W2 at *
      clear hW2
      have hk1 := blk_cell hHK 1
      have hk2 := blk_cell hHK 2
      have hk3 := blk_cell hHK 3
      have hHK' := Aside0.mk hHK
      clear hHK
      generalize (R[pos]'hps) = c at *
      have p0 : 0 ≤ p := by have := HL.out; have := HP.out; have := h3l.out; omega
      have p1 : p ≤ 21 := by have := HL.out; have := HP.out; omega
      have HP' := Aside0.mk (show p - 5 = 21 - 5 * ((pos + 1 : Nat) : Int) by have := HP.out; omega)
      clear HP hpl hps
      rcases hcs with rfl | rfl | rfl
      all_goals
        go_wp2
        go_roundg gk
        case measure => omega
        case rel => exact ⟨pos + 1, _, p - 5, rfl, rfl, ⟨by have := HL.out; omega⟩, HP', ⟨by first | exact H | (simpa [fldW] using H)⟩, hHI, hHK', hHB⟩
set_option maxRecDepth 100000 in
set_option maxHeartbeats 4000000 in
theorem put_no (k d a b n : Int) (ht : Aside0 (rightI k d a b n = false)) (w : World) :
   Calls Try.prog 18 #[.agg #[.int .i64 k, .int .i64 d, .int .i64 a, .int .i64 b, .int .i64 n]] w fun e w' => e = .returned (.tuple #[.int .u32 0, .int .i64 26]) ∧ Below w.heap.size w w' := by
  go_enter Try.func18, Try.ntmps18
  go_wp2_with fail
  refine (right_calls _ _ _ _ _ _).mono ?_
  rintro e w1 ⟨rfl, hB⟩
  rw [ht.out]
  have hB1 := Aside0.mk (below_step (below_alloc (Below.refl _ _) _) hB : Below w.heap.size w w1)
  clear hB
  go_wp2
  go_ret2
  exact ⟨rfl, hB1.out⟩

theorem formOf_len : (List.range 25).all (fun n => decide ((formOf n).2.1.data.toList.length ≤ 4)) = true := by decide
theorem formI_len (k : Int) : (formI k).2.1.data.toList.length ≤ 4 := by
  by_cases h : k < 0 ∨ 25 ≤ k
  · rw [formI_out k h]; decide
  · obtain ⟨n, rfl⟩ := Int.eq_ofNat_of_zero_le (by omega : 0 ≤ k)
    rw [formI_nat]
    exact of_decide_eq_true (List.all_eq_true.1 formOf_len n (List.mem_range.2 (by omega)))
theorem ofI_len (k n : Int) : (ofI k n).2.1.data.toList.length ≤ 4 := by
  unfold ofI
  split
  · show (sysRegs n).data.toList.length ≤ 4
    unfold sysRegs
    split
    · decide
    · split <;> decide
  · exact formI_len k
def maskI (k : Int) : Int := if k = 22 then 2097151 else 65535
def putI (k d a b n : Int) : Int := putLoop d a b (ofI k n).2.1.data.toList 21 (bits .or .u32 (k % 4294967296 * 67108864 % 4294967296) (bits .and .u32 (n % 4294967296) (maskI k)))
def putR (k d a b n : Int) : Int × Int := if rightI k d a b n = true then (putI k d a b n, 0) else (0, 26)
theorem put_calls (k d a b n : Int) (w : World) :
   Calls Try.prog 18 #[.agg #[.int .i64 k, .int .i64 d, .int .i64 a, .int .i64 b, .int .i64 n]] w fun e w' => e = .returned (.tuple #[.int .u32 (putR k d a b n).1, .int .i64 (putR k d a b n).2]) ∧ Below w.heap.size w w' := by
  by_cases ht : rightI k d a b n = true
  · rw [show putR k d a b n = (putI k d a b n, 0) from if_pos ht]
    have hR := ofI_regs k n
    have hL := ofI_len k n
    unfold putI
    obtain ⟨f, hf⟩ : ∃ f, ofI k n = f := ⟨_, rfl⟩
    rw [hf] at hR hL ⊢
    obtain ⟨nm, R, lo, hi⟩ := f
    by_cases hk : k = 22
    · rw [show maskI k = 2097151 from if_pos hk]
      exact put_yes21 k d a b n lo hi nm R ⟨hf⟩ hR ⟨if_pos hk⟩ hL ⟨ht⟩ w
    · rw [show maskI k = 65535 from if_neg hk]
      exact put_yes16 k d a b n lo hi nm R ⟨hf⟩ hR ⟨if_neg hk⟩ hL ⟨ht⟩ w
  · rw [show putR k d a b n = (0, 26) from if_neg ht]
    exact put_no k d a b n ⟨by simpa using ht⟩ w
end Go.Proofs.Ythhjnbhknnnihaa.Isa
