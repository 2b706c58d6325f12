import Derived.Test.YthhjnbhknnnihaaForms
set_option linter.unusedVariables false
set_option linter.unusedSimpArgs false
/-! isa.of: an instruction's form by its N, too. -/
namespace Go.Proofs.Ythhjnbhknnnihaa.Isa
open Go.RowKit Go.Proofs.YthhjnbhknnnihaaW.PrintWords Go.Proofs.YthhjnbhknnnihaaW.PrintLast Go.Proofs.YthhjnbhknnnihaaW.PrintMore Go.Proofs.Ythhjnbhknnnihaa.Base

def sysRegs (n : Int) : ByteArray := if n = 2 then ⟨#[68]⟩ else if n = 3 then ⟨#[68, 66]⟩ else ⟨#[65]⟩
def ofI (k n : Int) : ByteArray × ByteArray × Int × Int := if k = 24 ∧ 1 ≤ n ∧ n ≤ 4 then ((formI k).1, sysRegs n, (formI k).2.2) else formI k

set_option maxRecDepth 100000 in
set_option maxHeartbeats 1000000 in
theorem of_calls1 (d a b : Int) (w : World)  :
   Calls Try.prog 23 #[.agg #[.int .i64 24, .int .i64 d, .int .i64 a, .int .i64 b, .int .i64 1]] w fun e w' => e = .returned (formV (ofI 24 1)) ∧ Below w.heap.size w w' := by
    have hE := Aside0.mk (show ofI 24 1 = ((formI 24).1, ⟨#[65]⟩, (formI 24).2.2) from rfl)
    go_enter Try.func23, Try.ntmps23
    go_wp2_with fail
    refine (forms_calls _ _).mono ?_
    rintro e w1 ⟨rfl, hB⟩
    have hb1 : w1.heap[w.heap.size]? = some (.cells #[.int .i64 24, .int .i64 d, .int .i64 a, .int .i64 b, .int .i64 1] 37 (0, 0)) := (hB.block _ (by simp only [szA]; omega)).trans (heap_alloc2_old _ _ _)
    have hb2 : w1.heap[w.heap.size + 1]? = some (.cells #[.string ⟨#[]⟩, .string ⟨#[]⟩, .int .i64 0, .int .i64 0] 64 (0, 0)) := (hB.block _ (by simp only [szA]; omega)).trans (heap_alloc2_new _ _ _)
    have hB1 : Below w.heap.size w w1 := below_step (below_alloc (below_alloc (Below.refl _ _) _) _) hB
    have hsz : w.heap.size + 1 < w1.heap.size := by have := hB.size; simp only [szA] at this; omega
    have hsz' : w.heap.size < w1.heap.size := by omega
    clear hB
    generalize formI 24 = f at *
    obtain ⟨nm, rg, lo, hi⟩ := f
    simp only [formV]
    have hc10 := blk_cell hb1 0
    have hc14 := blk_cell hb1 4
    have hc20 := blk_cell hb2 0
    have hc21 := blk_cell hb2 1
    have hc22 := blk_cell hb2 2
    have hc23 := blk_cell hb2 3
    have hf20 := blk_frozen hb2 0
    have hf21 := blk_frozen hb2 1
    have hf22 := blk_frozen hb2 2
    have hf23 := blk_frozen hb2 3
    go_wp2
    all_goals refine bodyPost_ret (v := formV (nm, ⟨#[65]⟩, lo, hi)) (results_cell_row Try.results23 _ _ (w.heap.size + 1) 64 #[.string nm, .string ⟨#[65]⟩, .int .i64 lo, .int .i64 hi] (0, 0) _ rfl (by (with_reducible repeat (first | refine blk_drewN ?_ _ | refine blk_drew ?_ | refine blk_alloc ?_ _)); exact (blk_put (blk_put (blk_put (blk_put hb2 0 _ rfl) 1 _ rfl) 2 _ rfl) 3 _ rfl)) Try.underlying64 rfl (by kernel_rfl)) rfl ⟨by rw [hE.out], ?_⟩
    all_goals (with_reducible repeat (first | refine below_alloc ?_ _ | refine below_drew ?_ | refine pw_below_drewN ?_ _)); exact ((((hB1.setCell (by simp) _).setCell (by simp) _).setCell (by simp) _).setCell (by simp) _)

set_option maxRecDepth 100000 in
set_option maxHeartbeats 1000000 in
theorem of_calls2 (d a b : Int) (w : World)  :
   Calls Try.prog 23 #[.agg #[.int .i64 24, .int .i64 d, .int .i64 a, .int .i64 b, .int .i64 2]] w fun e w' => e = .returned (formV (ofI 24 2)) ∧ Below w.heap.size w w' := by
    have hE := Aside0.mk (show ofI 24 2 = ((formI 24).1, ⟨#[68]⟩, (formI 24).2.2) from rfl)
    go_enter Try.func23, Try.ntmps23
    go_wp2_with fail
    refine (forms_calls _ _).mono ?_
    rintro e w1 ⟨rfl, hB⟩
    have hb1 : w1.heap[w.heap.size]? = some (.cells #[.int .i64 24, .int .i64 d, .int .i64 a, .int .i64 b, .int .i64 2] 37 (0, 0)) := (hB.block _ (by simp only [szA]; omega)).trans (heap_alloc2_old _ _ _)
    have hb2 : w1.heap[w.heap.size + 1]? = some (.cells #[.string ⟨#[]⟩, .string ⟨#[]⟩, .int .i64 0, .int .i64 0] 64 (0, 0)) := (hB.block _ (by simp only [szA]; omega)).trans (heap_alloc2_new _ _ _)
    have hB1 : Below w.heap.size w w1 := below_step (below_alloc (below_alloc (Below.refl _ _) _) _) hB
    have hsz : w.heap.size + 1 < w1.heap.size := by have := hB.size; simp only [szA] at this; omega
    have hsz' : w.heap.size < w1.heap.size := by omega
    clear hB
    generalize formI 24 = f at *
    obtain ⟨nm, rg, lo, hi⟩ := f
    simp only [formV]
    have hc10 := blk_cell hb1 0
    have hc14 := blk_cell hb1 4
    have hc20 := blk_cell hb2 0
    have hc21 := blk_cell hb2 1
    have hc22 := blk_cell hb2 2
    have hc23 := blk_cell hb2 3
    have hf20 := blk_frozen hb2 0
    have hf21 := blk_frozen hb2 1
    have hf22 := blk_frozen hb2 2
    have hf23 := blk_frozen hb2 3
    go_wp2
    all_goals refine bodyPost_ret (v := formV (nm, ⟨#[68]⟩, lo, hi)) (results_cell_row Try.results23 _ _ (w.heap.size + 1) 64 #[.string nm, .string ⟨#[68]⟩, .int .i64 lo, .int .i64 hi] (0, 0) _ rfl (by (with_reducible repeat (first | refine blk_drewN ?_ _ | refine blk_drew ?_ | refine blk_alloc ?_ _)); exact (blk_put (blk_put (blk_put (blk_put hb2 0 _ rfl) 1 _ rfl) 2 _ rfl) 3 _ rfl)) Try.underlying64 rfl (by kernel_rfl)) rfl ⟨by rw [hE.out], ?_⟩
    all_goals (with_reducible repeat (first | refine below_alloc ?_ _ | refine below_drew ?_ | refine pw_below_drewN ?_ _)); exact ((((hB1.setCell (by simp) _).setCell (by simp) _).setCell (by simp) _).setCell (by simp) _)

set_option maxRecDepth 100000 in
set_option maxHeartbeats 1000000 in
theorem of_calls3 (d a b : Int) (w : World)  :
   Calls Try.prog 23 #[.agg #[.int .i64 24, .int .i64 d, .int .i64 a, .int .i64 b, .int .i64 3]] w fun e w' => e = .returned (formV (ofI 24 3)) ∧ Below w.heap.size w w' := by
    have hE := Aside0.mk (show ofI 24 3 = ((formI 24).1, ⟨#[68, 66]⟩, (formI 24).2.2) from rfl)
    go_enter Try.func23, Try.ntmps23
    go_wp2_with fail
    refine (forms_calls _ _).mono ?_
    rintro e w1 ⟨rfl, hB⟩
    have hb1 : w1.heap[w.heap.size]? = some (.cells #[.int .i64 24, .int .i64 d, .int .i64 a, .int .i64 b, .int .i64 3] 37 (0, 0)) := (hB.block _ (by simp only [szA]; omega)).trans (heap_alloc2_old _ _ _)
    have hb2 : w1.heap[w.heap.size + 1]? = some (.cells #[.string ⟨#[]⟩, .string ⟨#[]⟩, .int .i64 0, .int .i64 0] 64 (0, 0)) := (hB.block _ (by simp only [szA]; omega)).trans (heap_alloc2_new _ _ _)
    have hB1 : Below w.heap.size w w1 := below_step (below_alloc (below_alloc (Below.refl _ _) _) _) hB
    have hsz : w.heap.size + 1 < w1.heap.size := by have := hB.size; simp only [szA] at this; omega
    have hsz' : w.heap.size < w1.heap.size := by omega
    clear hB
    generalize formI 24 = f at *
    obtain ⟨nm, rg, lo, hi⟩ := f
    simp only [formV]
    have hc10 := blk_cell hb1 0
    have hc14 := blk_cell hb1 4
    have hc20 := blk_cell hb2 0
    have hc21 := blk_cell hb2 1
    have hc22 := blk_cell hb2 2
    have hc23 := blk_cell hb2 3
    have hf20 := blk_frozen hb2 0
    have hf21 := blk_frozen hb2 1
    have hf22 := blk_frozen hb2 2
    have hf23 := blk_frozen hb2 3
    go_wp2
    all_goals refine bodyPost_ret (v := formV (nm, ⟨#[68, 66]⟩, lo, hi)) (results_cell_row Try.results23 _ _ (w.heap.size + 1) 64 #[.string nm, .string ⟨#[68, 66]⟩, .int .i64 lo, .int .i64 hi] (0, 0) _ rfl (by (with_reducible repeat (first | refine blk_drewN ?_ _ | refine blk_drew ?_ | refine blk_alloc ?_ _)); exact (blk_put (blk_put (blk_put (blk_put hb2 0 _ rfl) 1 _ rfl) 2 _ rfl) 3 _ rfl)) Try.underlying64 rfl (by kernel_rfl)) rfl ⟨by rw [hE.out], ?_⟩
    all_goals (with_reducible repeat (first | refine below_alloc ?_ _ | refine below_drew ?_ | refine pw_below_drewN ?_ _)); exact ((((hB1.setCell (by simp) _).setCell (by simp) _).setCell (by simp) _).setCell (by simp) _)

set_option maxRecDepth 100000 in
set_option maxHeartbeats 1000000 in
theorem of_calls4 (d a b : Int) (w : World)  :
   Calls Try.prog 23 #[.agg #[.int .i64 24, .int .i64 d, .int .i64 a, .int .i64 b, .int .i64 4]] w fun e w' => e = .returned (formV (ofI 24 4)) ∧ Below w.heap.size w w' := by
    have hE := Aside0.mk (show ofI 24 4 = ((formI 24).1, ⟨#[65]⟩, (formI 24).2.2) from rfl)
    go_enter Try.func23, Try.ntmps23
    go_wp2_with fail
    refine (forms_calls _ _).mono ?_
    rintro e w1 ⟨rfl, hB⟩
    have hb1 : w1.heap[w.heap.size]? = some (.cells #[.int .i64 24, .int .i64 d, .int .i64 a, .int .i64 b, .int .i64 4] 37 (0, 0)) := (hB.block _ (by simp only [szA]; omega)).trans (heap_alloc2_old _ _ _)
    have hb2 : w1.heap[w.heap.size + 1]? = some (.cells #[.string ⟨#[]⟩, .string ⟨#[]⟩, .int .i64 0, .int .i64 0] 64 (0, 0)) := (hB.block _ (by simp only [szA]; omega)).trans (heap_alloc2_new _ _ _)
    have hB1 : Below w.heap.size w w1 := below_step (below_alloc (below_alloc (Below.refl _ _) _) _) hB
    have hsz : w.heap.size + 1 < w1.heap.size := by have := hB.size; simp only [szA] at this; omega
    have hsz' : w.heap.size < w1.heap.size := by omega
    clear hB
    generalize formI 24 = f at *
    obtain ⟨nm, rg, lo, hi⟩ := f
    simp only [formV]
    have hc10 := blk_cell hb1 0
    have hc14 := blk_cell hb1 4
    have hc20 := blk_cell hb2 0
    have hc21 := blk_cell hb2 1
    have hc22 := blk_cell hb2 2
    have hc23 := blk_cell hb2 3
    have hf20 := blk_frozen hb2 0
    have hf21 := blk_frozen hb2 1
    have hf22 := blk_frozen hb2 2
    have hf23 := blk_frozen hb2 3
    go_wp2
    all_goals refine bodyPost_ret (v := formV (nm, ⟨#[65]⟩, lo, hi)) (results_cell_row Try.results23 _ _ (w.heap.size + 1) 64 #[.string nm, .string ⟨#[65]⟩, .int .i64 lo, .int .i64 hi] (0, 0) _ rfl (by (with_reducible repeat (first | refine blk_drewN ?_ _ | refine blk_drew ?_ | refine blk_alloc ?_ _)); exact (blk_put (blk_put (blk_put (blk_put hb2 0 _ rfl) 1 _ rfl) 2 _ rfl) 3 _ rfl)) Try.underlying64 rfl (by kernel_rfl)) rfl ⟨by rw [hE.out], ?_⟩
    all_goals (with_reducible repeat (first | refine below_alloc ?_ _ | refine below_drew ?_ | refine pw_below_drewN ?_ _)); exact ((((hB1.setCell (by simp) _).setCell (by simp) _).setCell (by simp) _).setCell (by simp) _)

set_option maxRecDepth 100000 in
set_option maxHeartbeats 1000000 in
theorem of_callsA (k d a b n : Int) (h : k ≠ 24) (w : World)  :
   Calls Try.prog 23 #[.agg #[.int .i64 k, .int .i64 d, .int .i64 a, .int .i64 b, .int .i64 n]] w fun e w' => e = .returned (formV (ofI k n)) ∧ Below w.heap.size w w' := by
    have hE := Aside0.mk (show ofI k n = formI k by simp only [ofI]; rw [if_neg (by omega)])
    have hk : (k == 24) = false := by simp [h]
    clear h
    go_enter Try.func23, Try.ntmps23
    go_wp2_with fail
    refine (forms_calls _ _).mono ?_
    rintro e w1 ⟨rfl, hB⟩
    have hb1 : w1.heap[w.heap.size]? = some (.cells #[.int .i64 k, .int .i64 d, .int .i64 a, .int .i64 b, .int .i64 n] 37 (0, 0)) := (hB.block _ (by simp only [szA]; omega)).trans (heap_alloc2_old _ _ _)
    have hb2 : w1.heap[w.heap.size + 1]? = some (.cells #[.string ⟨#[]⟩, .string ⟨#[]⟩, .int .i64 0, .int .i64 0] 64 (0, 0)) := (hB.block _ (by simp only [szA]; omega)).trans (heap_alloc2_new _ _ _)
    have hB1 : Below w.heap.size w w1 := below_step (below_alloc (below_alloc (Below.refl _ _) _) _) hB
    have hsz : w.heap.size + 1 < w1.heap.size := by have := hB.size; simp only [szA] at this; omega
    have hsz' : w.heap.size < w1.heap.size := by omega
    clear hB
    generalize formI k = f at *
    obtain ⟨nm, rg, lo, hi⟩ := f
    simp only [formV]
    have hc10 := blk_cell hb1 0
    have hc14 := blk_cell hb1 4
    have hc20 := blk_cell hb2 0
    have hc21 := blk_cell hb2 1
    have hc22 := blk_cell hb2 2
    have hc23 := blk_cell hb2 3
    have hf20 := blk_frozen hb2 0
    have hf21 := blk_frozen hb2 1
    have hf22 := blk_frozen hb2 2
    have hf23 := blk_frozen hb2 3
    go_wp2
    all_goals refine bodyPost_ret (v := formV (nm, rg, lo, hi)) (results_cell_row Try.results23 _ _ (w.heap.size + 1) 64 #[.string nm, .string rg, .int .i64 lo, .int .i64 hi] (0, 0) _ rfl (by (with_reducible repeat (first | refine blk_drewN ?_ _ | refine blk_drew ?_ | refine blk_alloc ?_ _)); exact (blk_put (blk_put (blk_put (blk_put hb2 0 _ rfl) 1 _ rfl) 2 _ rfl) 3 _ rfl)) Try.underlying64 rfl (by kernel_rfl)) rfl ⟨by rw [hE.out], ?_⟩
    all_goals (with_reducible repeat (first | refine below_alloc ?_ _ | refine below_drew ?_ | refine pw_below_drewN ?_ _)); exact ((((hB1.setCell (by simp) _).setCell (by simp) _).setCell (by simp) _).setCell (by simp) _)
set_option maxRecDepth 100000 in
set_option maxHeartbeats 1000000 in
theorem of_callsB (d a b n : Int) (h : n < 1) (w : World)  :
   Calls Try.prog 23 #[.agg #[.int .i64 24, .int .i64 d, .int .i64 a, .int .i64 b, .int .i64 n]] w fun e w' => e = .returned (formV (ofI 24 n)) ∧ Below w.heap.size w w' := by
    have hE := Aside0.mk (show ofI 24 n = formI 24 by simp only [ofI]; rw [if_neg (by omega)])
    have hk : decide (1 ≤ n) = false := by simp; omega
    clear h
    go_enter Try.func23, Try.ntmps23
    go_wp2_with fail
    refine (forms_calls _ _).mono ?_
    rintro e w1 ⟨rfl, hB⟩
    have hb1 : w1.heap[w.heap.size]? = some (.cells #[.int .i64 24, .int .i64 d, .int .i64 a, .int .i64 b, .int .i64 n] 37 (0, 0)) := (hB.block _ (by simp only [szA]; omega)).trans (heap_alloc2_old _ _ _)
    have hb2 : w1.heap[w.heap.size + 1]? = some (.cells #[.string ⟨#[]⟩, .string ⟨#[]⟩, .int .i64 0, .int .i64 0] 64 (0, 0)) := (hB.block _ (by simp only [szA]; omega)).trans (heap_alloc2_new _ _ _)
    have hB1 : Below w.heap.size w w1 := below_step (below_alloc (below_alloc (Below.refl _ _) _) _) hB
    have hsz : w.heap.size + 1 < w1.heap.size := by have := hB.size; simp only [szA] at this; omega
    have hsz' : w.heap.size < w1.heap.size := by omega
    clear hB
    generalize formI 24 = f at *
    obtain ⟨nm, rg, lo, hi⟩ := f
    simp only [formV]
    have hc10 := blk_cell hb1 0
    have hc14 := blk_cell hb1 4
    have hc20 := blk_cell hb2 0
    have hc21 := blk_cell hb2 1
    have hc22 := blk_cell hb2 2
    have hc23 := blk_cell hb2 3
    have hf20 := blk_frozen hb2 0
    have hf21 := blk_frozen hb2 1
    have hf22 := blk_frozen hb2 2
    have hf23 := blk_frozen hb2 3
    go_wp2
    all_goals refine bodyPost_ret (v := formV (nm, rg, lo, hi)) (results_cell_row Try.results23 _ _ (w.heap.size + 1) 64 #[.string nm, .string rg, .int .i64 lo, .int .i64 hi] (0, 0) _ rfl (by (with_reducible repeat (first | refine blk_drewN ?_ _ | refine blk_drew ?_ | refine blk_alloc ?_ _)); exact (blk_put (blk_put (blk_put (blk_put hb2 0 _ rfl) 1 _ rfl) 2 _ rfl) 3 _ rfl)) Try.underlying64 rfl (by kernel_rfl)) rfl ⟨by rw [hE.out], ?_⟩
    all_goals (with_reducible repeat (first | refine below_alloc ?_ _ | refine below_drew ?_ | refine pw_below_drewN ?_ _)); exact ((((hB1.setCell (by simp) _).setCell (by simp) _).setCell (by simp) _).setCell (by simp) _)
set_option maxRecDepth 100000 in
set_option maxHeartbeats 1000000 in
theorem of_callsC (d a b n : Int) (h : 4 < n) (w : World)  :
   Calls Try.prog 23 #[.agg #[.int .i64 24, .int .i64 d, .int .i64 a, .int .i64 b, .int .i64 n]] w fun e w' => e = .returned (formV (ofI 24 n)) ∧ Below w.heap.size w w' := by
    have hE := Aside0.mk (show ofI 24 n = formI 24 by simp only [ofI]; rw [if_neg (by omega)])
    have hk : decide (1 ≤ n) = true := by simp; omega
    have hk2 : decide (n ≤ 4) = false := by simp; omega
    clear h
    go_enter Try.func23, Try.ntmps23
    go_wp2_with fail
    refine (forms_calls _ _).mono ?_
    rintro e w1 ⟨rfl, hB⟩
    have hb1 : w1.heap[w.heap.size]? = some (.cells #[.int .i64 24, .int .i64 d, .int .i64 a, .int .i64 b, .int .i64 n] 37 (0, 0)) := (hB.block _ (by simp only [szA]; omega)).trans (heap_alloc2_old _ _ _)
    have hb2 : w1.heap[w.heap.size + 1]? = some (.cells #[.string ⟨#[]⟩, .string ⟨#[]⟩, .int .i64 0, .int .i64 0] 64 (0, 0)) := (hB.block _ (by simp only [szA]; omega)).trans (heap_alloc2_new _ _ _)
    have hB1 : Below w.heap.size w w1 := below_step (below_alloc (below_alloc (Below.refl _ _) _) _) hB
    have hsz : w.heap.size + 1 < w1.heap.size := by have := hB.size; simp only [szA] at this; omega
    have hsz' : w.heap.size < w1.heap.size := by omega
    clear hB
    generalize formI 24 = f at *
    obtain ⟨nm, rg, lo, hi⟩ := f
    simp only [formV]
    have hc10 := blk_cell hb1 0
    have hc14 := blk_cell hb1 4
    have hc20 := blk_cell hb2 0
    have hc21 := blk_cell hb2 1
    have hc22 := blk_cell hb2 2
    have hc23 := blk_cell hb2 3
    have hf20 := blk_frozen hb2 0
    have hf21 := blk_frozen hb2 1
    have hf22 := blk_frozen hb2 2
    have hf23 := blk_frozen hb2 3
    go_wp2
    all_goals refine bodyPost_ret (v := formV (nm, rg, lo, hi)) (results_cell_row Try.results23 _ _ (w.heap.size + 1) 64 #[.string nm, .string rg, .int .i64 lo, .int .i64 hi] (0, 0) _ rfl (by (with_reducible repeat (first | refine blk_drewN ?_ _ | refine blk_drew ?_ | refine blk_alloc ?_ _)); exact (blk_put (blk_put (blk_put (blk_put hb2 0 _ rfl) 1 _ rfl) 2 _ rfl) 3 _ rfl)) Try.underlying64 rfl (by kernel_rfl)) rfl ⟨by rw [hE.out], ?_⟩
    all_goals (with_reducible repeat (first | refine below_alloc ?_ _ | refine below_drew ?_ | refine pw_below_drewN ?_ _)); exact ((((hB1.setCell (by simp) _).setCell (by simp) _).setCell (by simp) _).setCell (by simp) _)
theorem of_calls (k d a b n : Int) (w : World)  :
   Calls Try.prog 23 #[.agg #[.int .i64 k, .int .i64 d, .int .i64 a, .int .i64 b, .int .i64 n]] w fun e w' => e = .returned (formV (ofI k n)) ∧ Below w.heap.size w w' := by
  by_cases h24 : k = 24
  · subst h24
    obtain h | h | h | h | h | h : n < 1 ∨ 4 < n ∨ n = 1 ∨ n = 2 ∨ n = 3 ∨ n = 4 := by omega
    · exact of_callsB d a b n h w
    · exact of_callsC d a b n h w
    · subst h; exact of_calls1 d a b w
    · subst h; exact of_calls2 d a b w
    · subst h; exact of_calls3 d a b w
    · subst h; exact of_calls4 d a b w
  · exact of_callsA k d a b n h24 w
end Go.Proofs.Ythhjnbhknnnihaa.Isa
