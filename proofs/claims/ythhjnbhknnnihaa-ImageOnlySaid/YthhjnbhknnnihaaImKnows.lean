import Derived.Test.YthhjnbhknnnihaaImLink
set_option linter.unusedVariables false
set_option linter.unusedSimpArgs false
/-! camletlaw44.knows: closed calls. -/
namespace Go.Proofs.Ythhjnbhknnnihaa.PImageOnly
open Go.RowKit Go.Proofs.YthhjnbhknnnihaaW.PrintWords Go.Proofs.YthhjnbhknnnihaaW.PrintLast Go.Proofs.YthhjnbhknnnihaaW.PrintMore Go.Proofs.Ythhjnbhknnnihaa.Base Go.Proofs.Ythhjnbhknnnihaa.Im
def oneB : List Int := [67, 77, 76, 49, 0, 0, 0, 1, 0, 0, 0, 0, 0, 0, 0, 0, 170, 6, 109, 209]
def startL : S39 := ⟨⟨#[115, 116, 97, 114, 116]⟩, z37, ⟨#[]⟩⟩
theorem link1 : image_Link.f 3 [startL] = some ([0], 0, 0, 0) := by decide +kernel
theorem link2 : image_Link.f 3 [z39] = some ([], 0, 1, 25) := by decide +kernel
theorem put1 : image_Put.f [0] 0 = some (oneB, 0) := by decide +kernel
theorem take1 : image_Take.f oneB = some ([0], 0, 0) := by decide +kernel
theorem line_row (w : World) (g : Nat) (a b : ByteArray) (h : w.heap[g]? = some (.cells #[.string a, .int .i64 0, .int .i64 0, .int .i64 0, .int .i64 0, .int .i64 0, .string b] 39 (0, 0))) : Kd.C k39 w (some ⟨g, 0, none⟩) [(⟨a, z37, b⟩ : S39)].length [(⟨a, z37, b⟩ : S39)] := by
  refine ⟨rfl, by simp, fun _ => ⟨_, rfl, ?_⟩⟩
  intro j p hp
  cases j with
  | succ j => simp at hp
  | zero =>
    simp only [List.getElem?_cons_zero, Option.some.injEq] at hp
    subst hp
    refine ⟨_, rfl, k39_mk w _, fun i u hu => ?_⟩
    rw [show (⟨g, 0, none⟩ : Addr).add (0 * k39.sz + i) = ⟨g, i, none⟩ from by unfold Addr.add; split <;> simp_all]
    rw [(blk_cell h i)]
    simpa [z37] using hu
def camletlaw44_knows.f : Option Bool := some true
set_option maxHeartbeats 8000000 in
set_option maxRecDepth 100000 in
theorem camletlaw44_knows.calls (r : Bool) (w : World) (h : camletlaw44_knows.f = some r) : Calls Try.prog 4 #[] w fun e w' => e = .returned (.bool r) ∧ Below w.heap.size w w' := by
  obtain rfl := Option.some.inj h
  have hu39 := Try.underlying39
  have hu26 := Try.underlying26
  go_enter Try.func4, Try.ntmps4
  go_wp2_with fail
  refine (image_Link.calls 3 (some ⟨w.heap.size, 0, none⟩) 1 [startL] [0] 0 0 0 _ (line_row _ _ _ _ (heap_alloc_new _ _)) (by simp) link1).mono ?_
  rintro e w1 ⟨v1, rfl, hR1, hB1⟩
  have HB1 := Aside0.mk (below_step (below_alloc (Below.refl w.heap.size w) _) hB1)
  have HR1 := Aside0.mk hR1
  obtain ⟨A1, c1, rfl⟩ := Kd.R_slice hR1
  clear hB1 hR1
  go_wp2_with fail
  have hb2 := heap_alloc_new w1 (.cells #[.slice A1 1 c1, .int .i64 0] 26)
  have HR2 := Aside0.mk (Kd.R_alloc HR1.out (.cells #[.slice A1 1 c1, .int .i64 0] 26))
  have HB2 := Aside0.mk (below_alloc HB1.out (.cells #[.slice A1 1 c1, .int .i64 0] 26))
  have hs2 : w1.heap.size < (w1.alloc (.cells #[.slice A1 1 c1, .int .i64 0] 26)).heap.size := by simp
  generalize w1.alloc (.cells #[.slice A1 1 c1, .int .i64 0] 26) = w2 at *
  generalize w1.heap.size = g1 at *
  clear HR1 HB1
  refine (image_Put.calls A1 c1 [0] 0 oneB 0 w2 (Kd.R_reads' HR2.out).2.2 (Kd.R_reads' HR2.out).2.1 put1).mono ?_
  rintro e w3 ⟨v3, rfl, hR3, hB3⟩
  have hb3 := (hB3.block g1 hs2).trans hb2
  have hs3 := Nat.lt_of_lt_of_le hs2 hB3.size
  have HR2' := Aside0.mk (Kd.R_below HR2.out hB3)
  have HB3 := Aside0.mk (below_step HB2.out hB3)
  have HR3 := Aside0.mk hR3
  obtain ⟨A3, c3, rfl⟩ := Kd.R_slice hR3
  clear hB3 hR3 HR2 HB2 hb2 hs2
  go_wp2_with fail
  refine (image_Take.calls A3 c3 oneB [0] 0 0 w3 (Kd.R_reads' HR3.out).2.2 (Kd.R_reads' HR3.out).2.1 take1).mono ?_
  rintro e w4 ⟨v4, rfl, hR4, hB4⟩
  have hb4 := (hB4.block g1 hs3).trans hb3
  have hs4 := Nat.lt_of_lt_of_le hs3 hB4.size
  have HR2 := Aside0.mk (Kd.R_below HR2'.out hB4)
  have HR3' := Aside0.mk (Kd.R_below HR3.out hB4)
  have HB4 := Aside0.mk (below_step HB3.out hB4)
  have HR4 := Aside0.mk hR4
  obtain ⟨A4, c4, rfl⟩ := Kd.R_slice hR4
  clear hB4 hR4 HR2' HB3 hb3 hs3 HR3
  go_wp2_with fail
  have hb5 : ((w4.alloc (.cells #[.slice A4 1 c4, .int .i64 0] 26)).alloc (.cells #[.string ⟨#[]⟩, .int .i64 0, .int .i64 0, .int .i64 0, .int .i64 0, .int .i64 0, .string ⟨#[]⟩] 39)).heap[g1]? = _ := ((heap_alloc_old _ _ (by rw [szA]; omega)).trans (heap_alloc_old _ _ hs4)).trans hb4
  have hc5 : ((w4.alloc (.cells #[.slice A4 1 c4, .int .i64 0] 26)).alloc (.cells #[.string ⟨#[]⟩, .int .i64 0, .int .i64 0, .int .i64 0, .int .i64 0, .int .i64 0, .string ⟨#[]⟩] 39)).heap[w4.heap.size]? = _ := (heap_alloc_old _ _ (by rw [szA]; omega)).trans (heap_alloc_new w4 (.cells #[.slice A4 1 c4, .int .i64 0] 26))
  have hl5 := line_row _ _ ⟨#[]⟩ ⟨#[]⟩ (heap_alloc_new (w4.alloc (.cells #[.slice A4 1 c4, .int .i64 0] 26)) (.cells #[.string ⟨#[]⟩, .int .i64 0, .int .i64 0, .int .i64 0, .int .i64 0, .int .i64 0, .string ⟨#[]⟩] 39))
  rw [szA] at hl5
  have HR2' := Aside0.mk (Kd.R_alloc (Kd.R_alloc HR2.out (.cells #[.slice A4 1 c4, .int .i64 0] 26)) (.cells #[.string ⟨#[]⟩, .int .i64 0, .int .i64 0, .int .i64 0, .int .i64 0, .int .i64 0, .string ⟨#[]⟩] 39))
  have HR3 := Aside0.mk (Kd.R_alloc (Kd.R_alloc HR3'.out (.cells #[.slice A4 1 c4, .int .i64 0] 26)) (.cells #[.string ⟨#[]⟩, .int .i64 0, .int .i64 0, .int .i64 0, .int .i64 0, .int .i64 0, .string ⟨#[]⟩] 39))
  have HR4' := Aside0.mk (Kd.R_alloc (Kd.R_alloc HR4.out (.cells #[.slice A4 1 c4, .int .i64 0] 26)) (.cells #[.string ⟨#[]⟩, .int .i64 0, .int .i64 0, .int .i64 0, .int .i64 0, .int .i64 0, .string ⟨#[]⟩] 39))
  have HB5 := Aside0.mk (below_alloc (below_alloc HB4.out (.cells #[.slice A4 1 c4, .int .i64 0] 26)) (.cells #[.string ⟨#[]⟩, .int .i64 0, .int .i64 0, .int .i64 0, .int .i64 0, .int .i64 0, .string ⟨#[]⟩] 39))
  have hs5 : g1 < ((w4.alloc (.cells #[.slice A4 1 c4, .int .i64 0] 26)).alloc (.cells #[.string ⟨#[]⟩, .int .i64 0, .int .i64 0, .int .i64 0, .int .i64 0, .int .i64 0, .string ⟨#[]⟩] 39)).heap.size := by simp; omega
  have ht5 : w4.heap.size < ((w4.alloc (.cells #[.slice A4 1 c4, .int .i64 0] 26)).alloc (.cells #[.string ⟨#[]⟩, .int .i64 0, .int .i64 0, .int .i64 0, .int .i64 0, .int .i64 0, .string ⟨#[]⟩] 39)).heap.size := by simp; omega
  generalize (w4.alloc (.cells #[.slice A4 1 c4, .int .i64 0] 26)).alloc (.cells #[.string ⟨#[]⟩, .int .i64 0, .int .i64 0, .int .i64 0, .int .i64 0, .int .i64 0, .string ⟨#[]⟩] 39) = w5 at *
  clear HR2 HR3' HR4 HB4 hb4 hs4
  refine (image_Link.calls 3 _ 1 [z39] [] 0 1 25 w5 hl5 (by simp) link2).mono ?_
  clear hl5
  generalize w4.heap.size = g4 at *
  rintro e w6 ⟨v6, rfl, hR6, hB6⟩
  have hb6 := (hB6.block g1 hs5).trans hb5
  have hc6 := (hB6.block g4 ht5).trans hc5
  have hs6 := Nat.lt_of_lt_of_le hs5 hB6.size
  have ht6 := Nat.lt_of_lt_of_le ht5 hB6.size
  have HR2 := Aside0.mk (Kd.R_below HR2'.out hB6)
  have HR3' := Aside0.mk (Kd.R_below HR3.out hB6)
  have HR4 := Aside0.mk (Kd.R_below HR4'.out hB6)
  have HB6 := Aside0.mk (below_step HB5.out hB6)
  obtain ⟨A6, c6, rfl⟩ := Kd.R_slice hR6
  clear hB6 hR6 HR2' HR3 HR4' HB5 hb5 hc5 hs5 ht5
  have hb7 := (heap_alloc_old w6 (.cells #[.slice A6 0 c6, .int .i64 0] 26) hs6).trans hb6
  have hc7 := (heap_alloc_old w6 (.cells #[.slice A6 0 c6, .int .i64 0] 26) ht6).trans hc6
  have HR2' := Aside0.mk (Kd.R_alloc HR2.out (.cells #[.slice A6 0 c6, .int .i64 0] 26))
  have HR3 := Aside0.mk (Kd.R_alloc HR3'.out (.cells #[.slice A6 0 c6, .int .i64 0] 26))
  have HR4' := Aside0.mk (Kd.R_alloc HR4.out (.cells #[.slice A6 0 c6, .int .i64 0] 26))
  have HB7 := Aside0.mk (below_alloc HB6.out (.cells #[.slice A6 0 c6, .int .i64 0] 26))
  clear HR2 HR3' HR4 HB6 hb6 hc6 hs6 ht6
  have hd0 := blk_cell hb7 0
  have hd1 := blk_cell hb7 1
  have he0 := blk_cell hc7 0
  have he1 := blk_cell hc7 1
  have h3 := Kd.R_reads' HR3.out
  obtain ⟨g3, cap3, hv3, -⟩ := Kd.R_form HR3.out (by decide)
  have hA3 : A3 = some ⟨g3, 0, none⟩ := by injection hv3
  clear hv3
  subst hA3
  have hcs7 : (convert 22 9 (.slice (some ⟨g3, 0, none⟩) 4 c3)).run Try.prog (w6.alloc (.cells #[.slice A6 0 c6, .int .i64 0] 26)) = .ok (.string ⟨#[67, 77, 76, 49]⟩) (w6.alloc (.cells #[.slice A6 0 c6, .int .i64 0] 26)) := by
    have hr := Kd.reads_of_C (d := (0 : Int)) (h1 := fun _ => rfl) h3.2.2
    obtain ⟨ad, e, hc⟩ := hr.2.2 (by decide)
    cases e
    have := run_convert_bytes_arg (w6.alloc (.cells #[.slice A6 0 c6, .int .i64 0] 26)) 22 5 Try.underlying22 Try.underlying5 g3 0 4 c3 [67, 77, 76, 49] rfl (fun i hi => by
      have h4 := hc i (by simp [oneB]; omega)
      have ha : (⟨g3, 0, none⟩ : Addr).add i = ⟨g3, 0 + i, none⟩ := by unfold Addr.add; split <;> simp_all
      rw [ha] at h4
      rw [h4]
      rcases i with _ | _ | _ | _ | i <;> first | rfl | omega) 9 Try.underlying9
    exact this
  have hl3 : oneB.length = 20 := rfl
  rw [hl3] at *
  have hc3 : 20 ≤ c3 := h3.2.1
  clear h3
  go_wp2_with fail
  refine (camletref44_Same.calls 3 A1 c1 [0] 0 A4 c4 [0] 0 true _ (Kd.R_reads' HR2'.out).2.2 (Kd.R_reads' HR2'.out).2.1 (Kd.R_reads' HR4'.out).2.2 (Kd.R_reads' HR4'.out).2.1 (by decide +kernel)).mono ?_
  rintro e w8 ⟨rfl, hB8⟩
  have hb8 := (hB8.block g1 (blk_lt hb7)).trans hb7
  have HR8 := Aside0.mk (Kd.R_below HR2'.out hB8)
  have HB8 := Aside0.mk (below_step HB7.out hB8)
  clear hB8 hb7 hc7 hd0 hd1 he0 he1 HR2' HB7 hcs7
  have hd0 := blk_cell hb8 0
  have hd1 := blk_cell hb8 1
  go_wp2_with fail
  refine (image_Right.calls A1 c1 [0] 0 true w8 (Kd.R_reads' HR8.out).2.2 (Kd.R_reads' HR8.out).2.1 (by decide +kernel)).mono ?_
  rintro e w9 ⟨rfl, hB9⟩
  have HB9 := Aside0.mk (below_step HB8.out hB9)
  clear hB9 HB8
  go_wp2_with fail
  go_ret
  exact ⟨rfl, HB9.out⟩
end Go.Proofs.Ythhjnbhknnnihaa.PImageOnly
