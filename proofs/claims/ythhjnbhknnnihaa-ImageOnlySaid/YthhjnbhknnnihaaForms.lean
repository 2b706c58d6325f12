import Derived.Test.YthhjnbhknnnihaaBase
set_option linter.unusedVariables false
set_option linter.unusedSimpArgs false
/-! isa.forms: the table of the kinds' forms. -/
namespace Go.Proofs.Ythhjnbhknnnihaa.Isa
open Go.RowKit Go.Proofs.YthhjnbhknnnihaaW.PrintWords Go.Proofs.YthhjnbhknnnihaaW.PrintLast Go.Proofs.YthhjnbhknnnihaaW.PrintMore Go.Proofs.Ythhjnbhknnnihaa.Base

def formCells : List Value := [.string ⟨#[104, 97, 108, 116]⟩, .string ⟨#[]⟩, .int .i64 (0), .int .i64 (0), .string ⟨#[108, 105]⟩, .string ⟨#[68]⟩, .int .i64 (-32768), .int .i64 (32767), .string ⟨#[108, 117, 105]⟩, .string ⟨#[68]⟩, .int .i64 (0), .int .i64 (65535), .string ⟨#[111, 114, 105]⟩, .string ⟨#[68, 65]⟩, .int .i64 (0), .int .i64 (65535), .string ⟨#[97, 100, 100]⟩, .string ⟨#[68, 65, 66]⟩, .int .i64 (0), .int .i64 (0), .string ⟨#[115, 117, 98]⟩, .string ⟨#[68, 65, 66]⟩, .int .i64 (0), .int .i64 (0), .string ⟨#[109, 117, 108]⟩, .string ⟨#[68, 65, 66]⟩, .int .i64 (0), .int .i64 (0), .string ⟨#[100, 105, 118]⟩, .string ⟨#[68, 65, 66]⟩, .int .i64 (0), .int .i64 (0), .string ⟨#[114, 101, 109]⟩, .string ⟨#[68, 65, 66]⟩, .int .i64 (0), .int .i64 (0), .string ⟨#[115, 108, 116]⟩, .string ⟨#[68, 65, 66]⟩, .int .i64 (0), .int .i64 (0), .string ⟨#[97, 110, 100]⟩, .string ⟨#[68, 65, 66]⟩, .int .i64 (0), .int .i64 (0), .string ⟨#[111, 114]⟩, .string ⟨#[68, 65, 66]⟩, .int .i64 (0), .int .i64 (0), .string ⟨#[120, 111, 114]⟩, .string ⟨#[68, 65, 66]⟩, .int .i64 (0), .int .i64 (0), .string ⟨#[115, 108, 108]⟩, .string ⟨#[68, 65]⟩, .int .i64 (0), .int .i64 (31), .string ⟨#[115, 114, 108]⟩, .string ⟨#[68, 65]⟩, .int .i64 (0), .int .i64 (31), .string ⟨#[115, 114, 97]⟩, .string ⟨#[68, 65]⟩, .int .i64 (0), .int .i64 (31), .string ⟨#[97, 100, 100, 105]⟩, .string ⟨#[68, 65]⟩, .int .i64 (-32768), .int .i64 (32767), .string ⟨#[108, 119]⟩, .string ⟨#[68, 65]⟩, .int .i64 (-32768), .int .i64 (32767), .string ⟨#[115, 119]⟩, .string ⟨#[66, 65]⟩, .int .i64 (-32768), .int .i64 (32767), .string ⟨#[98, 101, 113]⟩, .string ⟨#[65, 66]⟩, .int .i64 (-32768), .int .i64 (32767), .string ⟨#[98, 110, 101]⟩, .string ⟨#[65, 66]⟩, .int .i64 (-32768), .int .i64 (32767), .string ⟨#[98, 108, 116]⟩, .string ⟨#[65, 66]⟩, .int .i64 (-32768), .int .i64 (32767), .string ⟨#[106, 97, 108]⟩, .string ⟨#[68]⟩, .int .i64 (-1048576), .int .i64 (1048575), .string ⟨#[106, 97, 108, 114]⟩, .string ⟨#[68, 65]⟩, .int .i64 (0), .int .i64 (0), .string ⟨#[115, 121, 115]⟩, .string ⟨#[]⟩, .int .i64 (1), .int .i64 (4)]


def formTab : List (ByteArray × ByteArray × Int × Int) := [(⟨#[104, 97, 108, 116]⟩, ⟨#[]⟩, 0, 0), (⟨#[108, 105]⟩, ⟨#[68]⟩, -32768, 32767), (⟨#[108, 117, 105]⟩, ⟨#[68]⟩, 0, 65535), (⟨#[111, 114, 105]⟩, ⟨#[68, 65]⟩, 0, 65535), (⟨#[97, 100, 100]⟩, ⟨#[68, 65, 66]⟩, 0, 0), (⟨#[115, 117, 98]⟩, ⟨#[68, 65, 66]⟩, 0, 0), (⟨#[109, 117, 108]⟩, ⟨#[68, 65, 66]⟩, 0, 0), (⟨#[100, 105, 118]⟩, ⟨#[68, 65, 66]⟩, 0, 0), (⟨#[114, 101, 109]⟩, ⟨#[68, 65, 66]⟩, 0, 0), (⟨#[115, 108, 116]⟩, ⟨#[68, 65, 66]⟩, 0, 0), (⟨#[97, 110, 100]⟩, ⟨#[68, 65, 66]⟩, 0, 0), (⟨#[111, 114]⟩, ⟨#[68, 65, 66]⟩, 0, 0), (⟨#[120, 111, 114]⟩, ⟨#[68, 65, 66]⟩, 0, 0), (⟨#[115, 108, 108]⟩, ⟨#[68, 65]⟩, 0, 31), (⟨#[115, 114, 108]⟩, ⟨#[68, 65]⟩, 0, 31), (⟨#[115, 114, 97]⟩, ⟨#[68, 65]⟩, 0, 31), (⟨#[97, 100, 100, 105]⟩, ⟨#[68, 65]⟩, -32768, 32767), (⟨#[108, 119]⟩, ⟨#[68, 65]⟩, -32768, 32767), (⟨#[115, 119]⟩, ⟨#[66, 65]⟩, -32768, 32767), (⟨#[98, 101, 113]⟩, ⟨#[65, 66]⟩, -32768, 32767), (⟨#[98, 110, 101]⟩, ⟨#[65, 66]⟩, -32768, 32767), (⟨#[98, 108, 116]⟩, ⟨#[65, 66]⟩, -32768, 32767), (⟨#[106, 97, 108]⟩, ⟨#[68]⟩, -1048576, 1048575), (⟨#[106, 97, 108, 114]⟩, ⟨#[68, 65]⟩, 0, 0), (⟨#[115, 121, 115]⟩, ⟨#[]⟩, 1, 4)]
def formOf (k : Nat) : ByteArray × ByteArray × Int × Int := formTab.getD k (⟨#[]⟩, ⟨#[]⟩, 0, 0)
def formI (k : Int) : ByteArray × ByteArray × Int × Int := if 0 ≤ k then formOf k.toNat else (⟨#[]⟩, ⟨#[]⟩, 0, 0)
theorem formI_nat (n : Nat) : formI (n : Int) = formOf n := by simp [formI]
theorem formI_out (k : Int) (h : k < 0 ∨ 25 ≤ k) : formI k = (⟨#[]⟩, ⟨#[]⟩, 0, 0) := by
  unfold formI formOf
  by_cases h0 : 0 ≤ k
  · rw [if_pos h0, List.getD_eq_getElem?_getD, List.getElem?_eq_none (by simp [formTab]; omega)]; rfl
  · rw [if_neg h0]
def formV (f : ByteArray × ByteArray × Int × Int) : Value := .agg #[.string f.1, .string f.2.1, .int .i64 f.2.2.1, .int .i64 f.2.2.2]
theorem formCells_at : ∀ k, k < 25 → (formCells.toArray.extract (k * 4) (k * 4 + 4)).toList = [.string (formOf k).1, .string (formOf k).2.1, .int .i64 (formOf k).2.2.1, .int .i64 (formOf k).2.2.2]
  | 0, _ => by kernel_rfl
  | 1, _ => by kernel_rfl
  | 2, _ => by kernel_rfl
  | 3, _ => by kernel_rfl
  | 4, _ => by kernel_rfl
  | 5, _ => by kernel_rfl
  | 6, _ => by kernel_rfl
  | 7, _ => by kernel_rfl
  | 8, _ => by kernel_rfl
  | 9, _ => by kernel_rfl
  | 10, _ => by kernel_rfl
  | 11, _ => by kernel_rfl
  | 12, _ => by kernel_rfl
  | 13, _ => by kernel_rfl
  | 14, _ => by kernel_rfl
  | 15, _ => by kernel_rfl
  | 16, _ => by kernel_rfl
  | 17, _ => by kernel_rfl
  | 18, _ => by kernel_rfl
  | 19, _ => by kernel_rfl
  | 20, _ => by kernel_rfl
  | 21, _ => by kernel_rfl
  | 22, _ => by kernel_rfl
  | 23, _ => by kernel_rfl
  | 24, _ => by kernel_rfl
  | n + 25, h => absurd h (by omega)

set_option maxRecDepth 100000 in
set_option maxHeartbeats 1000000 in
theorem forms_calls (k : Int) (w : World)  :
   Calls Try.prog 26 #[.int .i64 k] w fun e w' => e = .returned (formV (formI k)) ∧ Below w.heap.size w w' := by
  go_enter Try.func26, Try.ntmps26
  go_upto_region 1 with (fail)
  go_cut [3] (fun v3 wc => ∃ g : Nat, v3 = .pointer (some ⟨g, 0, none⟩) ∧ wc.heap[g]? = some (.cells formCells.toArray 71 (0, 0)) ∧ wc.heap[w.heap.size]? = some (.cells #[.string ⟨#[]⟩, .string ⟨#[]⟩, .int .i64 0, .int .i64 0] 64 (0, 0)) ∧ w.heap.size < g ∧ Below w.heap.size w wc)
  case first =>
    refine wp_region_lit ?_
    generalize hW : w.alloc _ = W
    refine wpList_opStepsN 26 ⟨#[.int .i64 k, undef, .pointer (some ⟨w.heap.size, 0, none⟩), undef, .agg #[.string ⟨#[104, 97, 108, 116]⟩, .string ⟨#[]⟩, .int .i64 (0), .int .i64 (0)], .agg #[.string ⟨#[108, 105]⟩, .string ⟨#[68]⟩, .int .i64 (-32768), .int .i64 (32767)], .agg #[.string ⟨#[108, 117, 105]⟩, .string ⟨#[68]⟩, .int .i64 (0), .int .i64 (65535)], .agg #[.string ⟨#[111, 114, 105]⟩, .string ⟨#[68, 65]⟩, .int .i64 (0), .int .i64 (65535)], .agg #[.string ⟨#[97, 100, 100]⟩, .string ⟨#[68, 65, 66]⟩, .int .i64 (0), .int .i64 (0)], .agg #[.string ⟨#[115, 117, 98]⟩, .string ⟨#[68, 65, 66]⟩, .int .i64 (0), .int .i64 (0)], .agg #[.string ⟨#[109, 117, 108]⟩, .string ⟨#[68, 65, 66]⟩, .int .i64 (0), .int .i64 (0)], .agg #[.string ⟨#[100, 105, 118]⟩, .string ⟨#[68, 65, 66]⟩, .int .i64 (0), .int .i64 (0)], .agg #[.string ⟨#[114, 101, 109]⟩, .string ⟨#[68, 65, 66]⟩, .int .i64 (0), .int .i64 (0)], .agg #[.string ⟨#[115, 108, 116]⟩, .string ⟨#[68, 65, 66]⟩, .int .i64 (0), .int .i64 (0)], .agg #[.string ⟨#[97, 110, 100]⟩, .string ⟨#[68, 65, 66]⟩, .int .i64 (0), .int .i64 (0)], .agg #[.string ⟨#[111, 114]⟩, .string ⟨#[68, 65, 66]⟩, .int .i64 (0), .int .i64 (0)], .agg #[.string ⟨#[120, 111, 114]⟩, .string ⟨#[68, 65, 66]⟩, .int .i64 (0), .int .i64 (0)], .agg #[.string ⟨#[115, 108, 108]⟩, .string ⟨#[68, 65]⟩, .int .i64 (0), .int .i64 (31)], .agg #[.string ⟨#[115, 114, 108]⟩, .string ⟨#[68, 65]⟩, .int .i64 (0), .int .i64 (31)], .agg #[.string ⟨#[115, 114, 97]⟩, .string ⟨#[68, 65]⟩, .int .i64 (0), .int .i64 (31)], .agg #[.string ⟨#[97, 100, 100, 105]⟩, .string ⟨#[68, 65]⟩, .int .i64 (-32768), .int .i64 (32767)], .agg #[.string ⟨#[108, 119]⟩, .string ⟨#[68, 65]⟩, .int .i64 (-32768), .int .i64 (32767)], .agg #[.string ⟨#[115, 119]⟩, .string ⟨#[66, 65]⟩, .int .i64 (-32768), .int .i64 (32767)], .agg #[.string ⟨#[98, 101, 113]⟩, .string ⟨#[65, 66]⟩, .int .i64 (-32768), .int .i64 (32767)], .agg #[.string ⟨#[98, 110, 101]⟩, .string ⟨#[65, 66]⟩, .int .i64 (-32768), .int .i64 (32767)], .agg #[.string ⟨#[98, 108, 116]⟩, .string ⟨#[65, 66]⟩, .int .i64 (-32768), .int .i64 (32767)], .agg #[.string ⟨#[106, 97, 108]⟩, .string ⟨#[68]⟩, .int .i64 (-1048576), .int .i64 (1048575)], .agg #[.string ⟨#[106, 97, 108, 114]⟩, .string ⟨#[68, 65]⟩, .int .i64 (0), .int .i64 (0)], .agg #[.string ⟨#[115, 121, 115]⟩, .string ⟨#[]⟩, .int .i64 (1), .int .i64 (4)], .agg formCells.toArray, undef, undef, undef, undef, undef, undef, undef, undef, undef, undef], []⟩ W (by kernel_rfl) rfl ?_
    refine box_event rfl (N := 3) rfl (cs := (formCells.map fun v => match v with | .string _ => Value.string ⟨#[]⟩ | _ => .int .i64 0).toArray) (t := 71) (by kernel_rfl) ?_
    intro g hg w1 hb hB
    refine wpList_store_mid (by rfl) 71 (.tmp 3) (.tmp 29) (by rfl) g 0 formCells.toArray (by rfl) (by rfl) ?_ (by kernel_rfl) (by kernel_rfl) ?_
    · exact there_of_block hb (by rfl)
    · have hS := heap_setCells_all g 71 formCells w1 _ hb (by rfl)
      refine wpList_nil ?_
      simp only [Act.put, List.setIfInBounds_toArray, List.set_cons_zero, List.set_cons_succ]
      go_wp2_with (fail)
      go_meet
      case rel =>
        subst hW
        refine ⟨g, rfl, hS, ?_, ?_, ?_⟩
        · rw [heap_setCells_other g _ (by simp at hg; omega), hB.block _ (by simp)]
          exact blk_new w _
        · simp at hg; omega
        · exact below_setCells g (by simp at hg; omega) _ _ _ (below_step (below_alloc (Below.refl _ _) _) hB)
  case rest =>
    obtain ⟨g, rfl, hb, h2, hlt, hB⟩ := hcut
    by_cases h0 : 0 ≤ k
    · by_cases h1 : k < 25
      · obtain ⟨n, rfl⟩ := Int.eq_ofNat_of_zero_le h0
        have hr := World.rangeAt_of_block hb (n * 4) 4
        rw [formCells_at n (by omega)] at hr
        have hE := Aside0.mk (formI_nat n)
        have hg0 : wc.cell? ⟨g, n * 4, none⟩ = some (.string (formOf n).1) := hr 0 _ rfl
        have hg1 : wc.cell? ⟨g, n * 4 + 1, none⟩ = some (.string (formOf n).2.1) := hr 1 _ rfl
        have hg2 : wc.cell? ⟨g, n * 4 + 2, none⟩ = some (.int .i64 (formOf n).2.2.1) := hr 2 _ rfl
        have hg3 : wc.cell? ⟨g, n * 4 + 3, none⟩ = some (.int .i64 (formOf n).2.2.2) := hr 3 _ rfl
        have hd0 : decide ((n : Int) < 0) = false := by simp
        have hd1 : decide (25 ≤ (n : Int)) = false := by simp; omega
        clear hr
        generalize formOf n = f at *
        have hc0 := (blk_cell h2 0)
        have hc1 := (blk_cell h2 1)
        have hc2 := (blk_cell h2 2)
        have hc3 := (blk_cell h2 3)
        have hf0 := blk_frozen h2 0
        have hf1 := blk_frozen h2 1
        have hf2 := blk_frozen h2 2
        have hf3 := blk_frozen h2 3
        go_wp2
        refine bodyPost_ret (v := formV f) (results_cell_row Try.results26 _ _ w.heap.size 64 #[.string f.1, .string f.2.1, .int .i64 f.2.2.1, .int .i64 f.2.2.2] (0, 0) _ rfl (blk_put (blk_put (blk_put (blk_put h2 0 _ rfl) 1 _ rfl) 2 _ rfl) 3 _ rfl) Try.underlying64 rfl (by kernel_rfl)) rfl ⟨?_, ?_⟩
        · rw [hE.out]
        · exact ((((hB.setCell (Nat.le_refl _) _).setCell (Nat.le_refl _) _).setCell (Nat.le_refl _) _).setCell (Nat.le_refl _) _)
      · have hE := Aside0.mk (formI_out k (by omega))
        have hd0 : decide (k < 0) = false := by simp; omega
        have hd1 : decide (25 ≤ k) = true := by simp; omega
        have hc0 := (blk_cell h2 0)
        have hc1 := (blk_cell h2 1)
        have hc2 := (blk_cell h2 2)
        have hc3 := (blk_cell h2 3)
        have hf0 := blk_frozen h2 0
        have hf1 := blk_frozen h2 1
        have hf2 := blk_frozen h2 2
        have hf3 := blk_frozen h2 3
        go_wp2
        refine bodyPost_ret (v := formV (⟨#[]⟩, ⟨#[]⟩, 0, 0)) (results_cell_row Try.results26 _ _ w.heap.size 64 #[.string ⟨#[]⟩, .string ⟨#[]⟩, .int .i64 0, .int .i64 0] (0, 0) _ rfl (blk_put (blk_put (blk_put (blk_put h2 0 _ rfl) 1 _ rfl) 2 _ rfl) 3 _ rfl) Try.underlying64 rfl (by kernel_rfl)) rfl ⟨?_, ?_⟩
        · rw [hE.out]
        · exact ((((hB.setCell (Nat.le_refl _) _).setCell (Nat.le_refl _) _).setCell (Nat.le_refl _) _).setCell (Nat.le_refl _) _)
    · have hE := Aside0.mk (formI_out k (by omega))
      have hd0 : decide (k < 0) = true := by simp; omega
      have hc0 := (blk_cell h2 0)
      have hc1 := (blk_cell h2 1)
      have hc2 := (blk_cell h2 2)
      have hc3 := (blk_cell h2 3)
      have hf0 := blk_frozen h2 0
      have hf1 := blk_frozen h2 1
      have hf2 := blk_frozen h2 2
      have hf3 := blk_frozen h2 3
      go_wp2
      refine bodyPost_ret (v := formV (⟨#[]⟩, ⟨#[]⟩, 0, 0)) (results_cell_row Try.results26 _ _ w.heap.size 64 #[.string ⟨#[]⟩, .string ⟨#[]⟩, .int .i64 0, .int .i64 0] (0, 0) _ rfl (blk_put (blk_put (blk_put (blk_put h2 0 _ rfl) 1 _ rfl) 2 _ rfl) 3 _ rfl) Try.underlying64 rfl (by kernel_rfl)) rfl ⟨?_, ?_⟩
      · rw [hE.out]
      · exact ((((hB.setCell (Nat.le_refl _) _).setCell (Nat.le_refl _) _).setCell (Nat.le_refl _) _).setCell (Nat.le_refl _) _)
end Go.Proofs.Ythhjnbhknnnihaa.Isa
