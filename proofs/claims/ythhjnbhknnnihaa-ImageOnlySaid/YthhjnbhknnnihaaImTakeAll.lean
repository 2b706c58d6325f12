import Derived.Test.YthhjnbhknnnihaaImTake
import Derived.Deep.RegionHeld3
import Derived.Deep.RegionWith
import Derived.Deep.RegionLaw
import Derived.Deep.AppendLies
set_option linter.unusedVariables false
set_option linter.unusedSimpArgs false
/-! image.Take: the image of bytes. -/
namespace Go.Proofs.Ythhjnbhknnnihaa.Im
open Go.RowKit Go.Proofs.YthhjnbhknnnihaaW.PrintWords Go.Proofs.YthhjnbhknnnihaaW.PrintLast Go.Proofs.YthhjnbhknnnihaaW.PrintMore Go.Proofs.Ythhjnbhknnnihaa.Base Go.Proofs.Ythhjnbhknnnihaa.PImageOnly

set_option maxRecDepth 100000 in
set_option maxHeartbeats 2000000 in
theorem Take_short (A : Option Addr) (c : Nat) (l : List Int) (w : World) (hl : l.length < 16) :
   Calls Try.prog 5 #[.slice A l.length c] w fun e w' => e = .returned (.tuple #[.agg #[.slice none 0 0, .int .i64 0], .int .i64 3]) ∧ Below w.heap.size w w' := by
  have hd : decide ((l.length : Int) < 16) = true := by simp; omega
  clear hl
  go_enter Try.func5, Try.ntmps5
  go_wp2
  exact bodyPost_ret (results_list (rs := [.cell 2 26, .tmp 3]) Try.results5 (by simp) (.cell w.heap.size 26 #[.slice none 0 0, .int .i64 0] (0, 0) _ rfl (heap_alloc_new _ _) Try.underlying26 rfl (by kernel_rfl) (.tmp .nil))) rfl ⟨rfl, below_alloc (Below.refl _ _) _⟩

theorem info43 : (Try.prog.info? 43).map (fun i => (i.zero, i.size, i.bytes)) = some (some (.int .u32 0), 1, 4) := by kernel_rfl
theorem bits_or_range (x y : Int) : 0 ≤ bits .or .u32 x y ∧ bits .or .u32 x y ≤ 4294967295 := by
  show 0 ≤ IntKind.u32.wrap ((BitVec.ofInt 32 x ||| BitVec.ofInt 32 y).toNat : Int) ∧ IntKind.u32.wrap ((BitVec.ofInt 32 x ||| BitVec.ofInt 32 y).toNat : Int) ≤ 4294967295
  rw [show ∀ z : Int, IntKind.u32.wrap z = z % 4294967296 from fun z => by simp [IntKind.wrap_u32]]
  omega
theorem num4_range (l : List Int) : 0 ≤ num4 l ∧ num4 l ≤ 4294967295 := bits_or_range _ _

theorem sum16 (g : Nat) (A : Option Addr) (c n : Nat) (l : List Int) (hn : l.length = n) (w : World) (hb : w.heap[g]? = some (.cells #[.int .u32 1] 43 (0, 0))) (hC : Kd.C (Kd.int .u8) w A n l) (hne : ∀ ad, A = some ad → ad.block ≠ g) (B : Nat) (a : World) (hB : Below B a w) (hg : B ≤ g) (r : Int) (hr : sumL l 1 = r) :
   Calls Try.prog 16 #[.slice A n c, .pointer (some ⟨g, 0, none⟩)] w fun e w' => e = .returned (.int .u32 r) ∧ Below B a w' ∧ w'.heap.size = w.heap.size ∧ (∀ j, j ≠ g → w'.heap[j]? = w.heap[j]?) := by
  subst hn
  exact sum_calls g A c l w hb hC hne B a hB hg r hr
def mark : List UInt8 := [67, 77, 76, 49]
def nums4 : Nat → List Int → List Int
  | 0, _ => []
  | n + 1, l => num4 l :: nums4 n (l.drop 4)
def rightImg (l : List Int) (e : Int) : Bool := decide (1 ≤ l.length) && decide (l.length ≤ 16384) && decide (0 ≤ e) && decide (e < (l.length : Int))
theorem right_eq (l : List Int) (e : Int) : image_Right.f l e = some (rightImg l e) := by
  unfold image_Right.f rightImg
  by_cases h1 : (l.length : Int) ≥ 1
  · rw [if_pos h1, show decide (1 ≤ l.length) = true from decide_eq_true (by omega)]
    by_cases h2 : (l.length : Int) ≤ 16384
    · rw [if_pos h2, show decide (l.length ≤ 16384) = true from decide_eq_true (by omega)]
      by_cases h3 : e ≥ 0
      · rw [if_pos h3, show decide (0 ≤ e) = true from decide_eq_true h3]
        simp
      · rw [if_neg h3, show decide (0 ≤ e) = false from decide_eq_false h3]
        simp
    · rw [if_neg h2, show decide (l.length ≤ 16384) = false from decide_eq_false (by omega)]
      simp
  · rw [if_neg h1, show decide (1 ≤ l.length) = false from decide_eq_false (by omega)]
    simp
def takeF (l : List Int) : List Int × Int × Int :=
  if l.length < 16 then ([], 0, 3)
  else if (strOfNums (l.take 4)).toList == mark then
    (if 16384 < num4 (l.drop 4) then ([], 0, 4)
     else if ((l.length - 12 : Nat) : Int) ≠ 4 * num4 (l.drop 4) + 4 then ([], 0, 3)
     else if num4 (l.drop (12 + 4 * (num4 (l.drop 4)).toNat)) ≠ sumL (l.take (l.length - 4)) 1 then ([], 0, 23)
     else if rightImg (nums4 (num4 (l.drop 4)).toNat (l.drop 12)) (num4 (l.drop 8)) then (nums4 (num4 (l.drop 4)).toNat (l.drop 12), num4 (l.drop 8), 0)
     else ([], 0, 3))
  else ([], 0, 3)

set_option maxRecDepth 100000 in
set_option maxHeartbeats 2000000 in
theorem Take_mark (A : Option Addr) (c : Nat) (l : List Int) (w : World) (hl : 16 ≤ l.length) (hC : Kd.C (Kd.int .u8) w A l.length l) (hc : l.length ≤ c) (hS : Aside0 (((strOfNums (l.take 4)).toList == mark) = false)) :
   Calls Try.prog 5 #[.slice A l.length c] w fun e w' => e = .returned (.tuple #[.agg #[.slice none 0 0, .int .i64 0], .int .i64 3]) ∧ Below w.heap.size w w' := by
  have hd : decide ((l.length : Int) < 16) = false := by simp; omega
  have hl4 : (4 : Int) ≤ (l.length : Int) := by omega
  have hcc : (l.length : Int) ≤ (c : Int) := by omega
  have hC4 := Kd.C_take hC (m := 4) (by omega)
  have hl4' : (l.take 4).length = 4 := by rw [List.length_take]; omega
  rw [hl4'] at hC4
  have hcv := Kd.C_string (P := Try.prog) (src := 22) (dst := 9) (c := c) Try.underlying22 Try.underlying5 Try.underlying9 (Kd.C_below hC4 (below_alloc (Below.refl _ _) (.cells #[.slice none 0 0, .int .i64 0] 26)))
  clear hl4' hC4
  have hS' : ((strOfNums (l.take 4)).toList == [67, 77, 76, 49]) = false := hS.out
  generalize strOfNums (l.take 4) = S at *
  clear hS
  go_enter Try.func5, Try.ntmps5
  go_wp2_with fail
  exact bodyPost_ret (results_list (rs := [.cell 2 26, .tmp 3]) Try.results5 (by simp) (.cell w.heap.size 26 #[.slice none 0 0, .int .i64 0] (0, 0) _ rfl (heap_alloc_new _ _) Try.underlying26 rfl (by kernel_rfl) (.tmp .nil))) rfl ⟨rfl, below_alloc (Below.refl _ _) _⟩

set_option maxRecDepth 100000 in
set_option maxHeartbeats 8000000 in
theorem Take_main (A : Option Addr) (c : Nat) (l : List Int) (w : World) (hl : 16 ≤ l.length) (hC : Kd.C (Kd.int .u8) w A l.length l) (hc : l.length ≤ c) (hS : Aside0 (((strOfNums (l.take 4)).toList == mark) = true)) (r : List Int × Int × Int) (hr : Aside0 (takeF l = r)) :
   Calls Try.prog 5 #[.slice A l.length c] w fun e w' => ∃ v, e = .returned (.tuple #[.agg #[v, .int .i64 r.2.1], .int .i64 r.2.2]) ∧ Kd.R (Kd.int .u32) 43 w' w.heap.size (fun _ => True) v r.1 ∧ Below w.heap.size w w' := by
  have hd : decide ((l.length : Int) < 16) = false := by simp; omega
  have hl4 : (4 : Int) ≤ (l.length : Int) := by omega
  have hcc : (l.length : Int) ≤ (c : Int) := by omega
  have hC4 := Kd.C_take hC (m := 4) (by omega)
  have hl4' : (l.take 4).length = 4 := by rw [List.length_take]; omega
  rw [hl4'] at hC4
  have hcv := Kd.C_string (P := Try.prog) (src := 22) (dst := 9) (c := c) Try.underlying22 Try.underlying5 Try.underlying9 (Kd.C_below hC4 (below_alloc (Below.refl _ _) (.cells #[.slice none 0 0, .int .i64 0] 26)))
  clear hl4' hC4
  have hS' : ((strOfNums (l.take 4)).toList == [67, 77, 76, 49]) = true := hS.out
  have H := hr.out
  unfold takeF at H
  rw [if_neg (by omega), if_pos hS.out] at H
  have HE := Aside0.mk H
  clear H hr
  generalize strOfNums (l.take 4) = S at *
  clear hS
  have HC := Aside0.mk hC
  obtain ⟨b, o, rfl, hbw, hm, hcell⟩ := bytes_start (by omega) hC
  have Hcell := Aside0.mk hcell
  have HLm := Aside0.mk hm
  have hc12 : ¬ c = 4 := by omega
  clear hC hcell hm
  go_enter Try.func5, Try.ntmps5
  go_wp2_with fail
  have hBA : BytesAt w ((w.alloc (.cells #[.slice none 0 0, .int .i64 0] 26)).alloc (.cells #[.slice (some ⟨b, o + 4, none⟩) (l.length - 4) (c - 4)] 22)) (w.heap.size + 1) (l.drop 4) := by
    refine ⟨some ⟨b, o + 4, none⟩, c - 4, ?_, by simp; omega, bytes_drop HLm.out Hcell.out⟩
    rw [List.length_drop]
    exact heap_alloc2_new _ _ _
  have hB0 : Below w.heap.size w ((w.alloc (.cells #[.slice none 0 0, .int .i64 0] 26)).alloc (.cells #[.slice (some ⟨b, o + 4, none⟩) (l.length - 4) (c - 4)] 22)) := below_alloc (below_alloc (Below.refl _ _) _) _
  refine (take_calls _ _ w _ hBA (by simp; omega) hB0 (by omega)).mono ?_
  rintro e w1 ⟨rfl, hBA1, hB1, hs1, ho1⟩
  have hz1 : w1.heap[w.heap.size]? = some (.cells #[.slice none 0 0, .int .i64 0] 26 (0, 0)) := (ho1 _ (by omega)).trans (heap_alloc2_old _ _ _)
  have hs1' : w1.heap.size = w.heap.size + 2 := by rw [hs1]; simp only [szA]
  clear hs1 ho1 hBA hB0
  have HS1 := Aside0.mk hs1'
  clear hs1'
  go_wp2_with fail
  refine (take_calls _ _ w _ hBA1 (by simp; omega) hB1 (by omega)).mono ?_
  rintro e w2 ⟨rfl, hBA2, hB2, hs2, ho2⟩
  have hz2 : w2.heap[w.heap.size]? = some (.cells #[.slice none 0 0, .int .i64 0] 26 (0, 0)) := (ho2 _ (by omega)).trans hz1
  have HS2 := Aside0.mk (hs2.trans HS1.out)
  clear hs2 ho2 hBA1 hB1 hz1 HS1
  simp only [List.drop_drop, show 4 + 4 = 8 from rfl, show 8 + 4 = 12 from rfl] at hBA2 ⊢
  have HBA2 := Aside0.mk hBA2
  have HB2 := Aside0.mk hB2
  clear hBA2 hB2
  have HNR := num4_range (l.drop 4)
  have HER := num4_range (l.drop 8)
  generalize num4 (l.drop 4) = n at *
  generalize num4 (l.drop 8) = en at *
  obtain ⟨hn0, hn1⟩ := HNR
  obtain ⟨he0, he1⟩ := HER
  have H := HE.out
  clear HE
  have hzc0 := blk_cell hz2 0
  have hzc1 := blk_cell hz2 1
  have hzf0 := blk_frozen hz2 0
  have hzf1 := blk_frozen hz2 1
  by_cases n1 : 16384 < n
  · rw [if_pos n1] at H
    subst H
    have n1' : decide (16384 < n) = true := decide_eq_true n1
    clear n1
    go_wp2_with fail
    exact bodyPost_ret (results_list (rs := [.cell 2 26, .tmp 3]) Try.results5 (by simp) (.cell w.heap.size 26 #[.slice none 0 0, .int .i64 0] (0, 0) _ rfl (by (with_reducible repeat (first | refine blk_drewN ?_ _ | refine blk_drew ?_ | refine blk_alloc ?_ _)); exact blk_put (blk_put hz2 0 _ rfl) 1 _ rfl) Try.underlying26 rfl (by kernel_rfl) (.tmp .nil))) rfl ⟨_, rfl, Kd.R_of_own (own_nil _ _ _ _) (fun _ _ => trivial), by (with_reducible repeat (first | refine below_alloc ?_ _ | refine below_drew ?_ | refine pw_below_drewN ?_ _)); exact (HB2.out.setCell (Nat.le_refl _) _).setCell (Nat.le_refl _) _⟩
  rw [if_neg n1] at H
  have n1' : decide (16384 < n) = false := decide_eq_false n1
  have n16 : n ≤ 16384 := by omega
  clear n1 hn1
  obtain ⟨A2, c2, hb2, hc2, hC2⟩ := HBA2.out
  rw [List.length_drop] at hb2
  have hbc := blk_cell hb2 0
  have hbf := blk_frozen hb2 0
  have hlen12 : ((l.length - 12 : Nat) : Int) ≤ 9223372036854775807 := by have := HLm.out; omega
  have HC2 := Aside0.mk hC2
  clear hC2 hc2
  by_cases n2 : ((l.length - 12 : Nat) : Int) ≠ 4 * n + 4
  · rw [if_pos n2] at H
    subst H
    have n2' : (((l.length - 12 : Nat) : Int) != 4 * n + 4) = true := by simpa using n2
    clear n2
    go_wp2_with fail
    exact bodyPost_ret (results_list (rs := [.cell 2 26, .tmp 3]) Try.results5 (by simp) (.cell w.heap.size 26 #[.slice none 0 0, .int .i64 0] (0, 0) _ rfl (by (with_reducible repeat (first | refine blk_drewN ?_ _ | refine blk_drew ?_ | refine blk_alloc ?_ _)); exact blk_put (blk_put hz2 0 _ rfl) 1 _ rfl) Try.underlying26 rfl (by kernel_rfl) (.tmp .nil))) rfl ⟨_, rfl, Kd.R_of_own (own_nil _ _ _ _) (fun _ _ => trivial), by (with_reducible repeat (first | refine below_alloc ?_ _ | refine below_drew ?_ | refine pw_below_drewN ?_ _)); exact (HB2.out.setCell (Nat.le_refl _) _).setCell (Nat.le_refl _) _⟩
  rw [if_neg n2] at H
  have n2' : (((l.length - 12 : Nat) : Int) != 4 * n + 4) = false := by simpa using n2
  have HN2 := Aside0.mk n2
  clear n2
  have HE := Aside0.mk H
  clear H
  obtain ⟨N, rfl⟩ := Int.eq_ofNat_of_zero_le hn0
  go_wp2_with fail
  clear hzc0 hzc1 hzf0 hzf1 hbc hbf hb2 hS' hcv hd hl4 hcc n1' n2'
  go_loopg [39] N (fun gk v39 wr => ∃ (i : Nat) (ws : List Int) (vv : Value), v39 = .int .u32 (i : Int) ∧ Aside0 (i + gk = N) ∧ Aside0 (ws ++ nums4 gk (l.drop (12 + 4 * i)) = nums4 N (l.drop 12)) ∧ Aside0 (BytesAt w wr (w.heap.size + 1) (l.drop (12 + 4 * i))) ∧ Aside0 (wr.heap[w2.heap.size]? = some (.cells #[vv, .int .i64 en] 26 (0, 0))) ∧ Aside0 (wr.ownsRow (w2.heap.size + 1) 43 1 vv ws.length (nums .u32 ws)) ∧ Aside0 (wr.heap[w.heap.size]? = some (.cells #[.slice none 0 0, .int .i64 0] 26 (0, 0))) ∧ Aside0 (ws.length = i) ∧ Aside0 (w2.heap.size < wr.heap.size) ∧ Aside0 (Below w.heap.size w wr))
  case atStart =>
    have hgt : w.heap.size + 1 < w2.heap.size := by have := HS2.out; omega
    refine ⟨0, [], _, rfl, ⟨by omega⟩, ⟨rfl⟩, ⟨?_⟩, ⟨heap_alloc_new _ _⟩, ⟨own_nil _ _ _ _⟩, ⟨(heap_alloc_old _ _ (by omega)).trans hz2⟩, ⟨rfl⟩, ⟨by simp only [szA]; omega⟩, ⟨below_alloc HB2.out _⟩⟩
    exact HBA2.out.keep (heap_alloc_old _ _ hgt)
  case round =>
    obtain ⟨i, ws, vv, rfl, HL, HW, HBA, HV, HO, HZ, HWL, HSZ, HB⟩ := hrel
    cases gk with
    | zero =>
      have hd : decide (i < N) = false := by have := HL.out; simp; omega
      have H := HW.out
      simp only [nums4, List.append_nil] at H
      have hiN : i = N := by have := HL.out; omega
      subst hiN
      have HE1 := Aside0.mk H
      have hBAd : BytesAt w wr.drew (w.heap.size + 1) (l.drop (12 + 4 * i)) := HBA.out
      have hBd : Below w.heap.size w wr.drew := below_drew HB.out
      have HBAd := Aside0.mk hBAd
      have HBd := Aside0.mk hBd
      have HL4 := Aside0.mk (show 4 ≤ (l.drop (12 + 4 * i)).length by rw [List.length_drop]; have := HN2.out; omega)
      have hh1 : ((l.length - 4 : Nat) : Int) ≤ (c : Int) := by omega
      have hw4 : IntKind.i64.wrap ((l.length : Int) - 4) = ((l.length - 4 : Nat) : Int) := by rw [IntWalk.i64_in ((l.length : Int) - 4) (by have := HLm.out; omega)]; omega
      have hCt := Kd.C_take HC.out (m := l.length - 4) (by omega)
      have hlt4 : (l.take (l.length - 4)).length = l.length - 4 := by rw [List.length_take]; omega
      rw [hlt4] at hCt
      have HCt := Aside0.mk hCt
      have HLt := Aside0.mk hlt4
      clear hCt hlt4
      clear hBAd hBd H
      obtain ⟨SV, hSV0⟩ : ∃ SV, sumL (l.take (l.length - 4)) 1 = SV := ⟨_, rfl⟩
      have hSV := Aside0.mk hSV0
      clear hSV0
      go_wp2_with fail
      go_region_law (first | (go_simp; go_at_call 10; refine (take_calls (w.heap.size + 1) (l.drop (12 + 4 * i)) w _ HBAd.out HL4.out HBd.out (by omega)).mono ?_; rintro e w4 ⟨rfl, hBA4, hB4, hs4, ho4⟩; have HS4 := Aside0.mk hs4; have HO4 := Aside0.mk ho4; have HBA4 := Aside0.mk hBA4; have HB4 := Aside0.mk hB4; clear hs4 ho4 hBA4 hB4) | (go_simp; go_at_call 11; refine (adder_calls _).mono ?_; rintro e w5 ⟨rfl, rfl⟩) | (go_simp; go_at_call 16; refine (sum16 w4.heap.size (some ⟨b, o, none⟩) c (l.length - 4) (l.take (l.length - 4)) HLt.out _ (heap_alloc_new _ _) (Kd.C_below HCt.out (below_alloc HB4.out _)) (fun ad h => by cases h; have := HB4.out.size; simp; omega) w.heap.size w (below_alloc HB4.out _) (HB4.out.size) SV hSV.out).mono ?_; rintro e w5 ⟨rfl, hB5, hs5, ho5⟩; have HB5 := Aside0.mk hB5; have HO5 := Aside0.mk ho5; clear hs5 ho5 hB5))
      have E5 : ∀ k, k < w4.heap.size → w5.heap[k]? = w4.heap[k]? := fun k hk => (HO5.out k (by omega)).trans (heap_alloc_old _ _ hk)
      have hl4z : w2.heap.size < w4.heap.size := by rw [HS4.out]; exact HSZ.out
      have hg2 : w.heap.size + 1 < w2.heap.size := by have := HS2.out; omega
      have hz5 : w5.heap[w.heap.size]? = some (.cells #[.slice none 0 0, .int .i64 0] 26 (0, 0)) := (E5 _ (by omega)).trans ((HO4.out _ (by omega)).trans HZ.out)
      have hv5 : w5.heap[w2.heap.size]? = some (.cells #[vv, .int .i64 en] 26 (0, 0)) := (E5 _ hl4z).trans ((HO4.out _ (by omega)).trans HV.out)
      have hown5 : w5.ownsRow (w2.heap.size + 1) 43 1 vv ws.length (nums .u32 ws) := own_move HO.out (fun k hk => (E5 k (by rw [HS4.out]; exact own_lt HO.out k hk)).trans (HO4.out k (by have := own_base HO.out k hk; omega)))
      have HOWN5 := Aside0.mk hown5
      have HZ5 := Aside0.mk hz5
      have HV5 := Aside0.mk hv5
      have HE2 := HE.out
      rw [Int.toNat_natCast, hSV.out] at HE2
      generalize num4 (l.drop (12 + 4 * i)) = s4 at *
      have hzc0 := blk_cell hz5 0
      have hzc1 := blk_cell hz5 1
      have hzf0 := blk_frozen hz5 0
      have hzf1 := blk_frozen hz5 1
      have hvc0 := blk_cell hv5 0
      have hvc1 := blk_cell hv5 1
      clear hown5 hz5 hv5 E5 HE
      by_cases n3 : s4 ≠ SV
      · rw [if_pos n3] at HE2
        subst HE2
        have n3' : (s4 != SV) = true := by simpa using n3
        clear n3
        go_wp2_with fail
        exact bodyPost_ret (results_list (rs := [.cell 2 26, .tmp 3]) Try.results5 (by simp) (.cell w.heap.size 26 #[.slice none 0 0, .int .i64 0] (0, 0) _ rfl (by (with_reducible repeat (first | refine blk_drewN ?_ _ | refine blk_drew ?_ | refine blk_alloc ?_ _)); exact blk_put (blk_put HZ5.out 0 _ rfl) 1 _ rfl) Try.underlying26 rfl (by kernel_rfl) (.tmp .nil))) rfl ⟨_, rfl, Kd.R_of_own (own_nil _ _ _ _) (fun _ _ => trivial), by (with_reducible repeat (first | refine below_alloc ?_ _ | refine below_drew ?_ | refine pw_below_drewN ?_ _)); exact (HB5.out.setCell (Nat.le_refl _) _).setCell (Nat.le_refl _) _⟩
      rw [if_neg n3] at HE2
      have n3' : (s4 != SV) = false := by simpa using n3
      clear n3
      rw [← HE1.out] at HE2
      go_wp2_with fail
      obtain ⟨Av, cv, rfl⟩ := own_slice HOWN5.out
      refine (image_Right.calls Av cv ws en (rightImg ws en) _ (Kd.C_of_reads (d := (0 : Int)) (h1 := fun _ => rfl) (own_reads_of' HOWN5.out)) (own_cap HOWN5.out) (right_eq ws en)).mono ?_
      rintro e w6 ⟨rfl, hB6⟩
      have hz6 : w6.heap[w.heap.size]? = some (.cells #[.slice none 0 0, .int .i64 0] 26 (0, 0)) := (hB6.block _ (blk_lt HZ5.out)).trans HZ5.out
      have hv6 : w6.heap[w2.heap.size]? = some (.cells #[.slice Av ws.length cv, .int .i64 en] 26 (0, 0)) := (hB6.block _ (blk_lt HV5.out)).trans HV5.out
      have HOWN6 := Aside0.mk (pw_own_below HOWN5.out hB6)
      have HB6 := Aside0.mk (below_step HB5.out hB6)
      have HZ6 := Aside0.mk hz6
      clear hB6 hzc0 hzc1 hzf0 hzf1 hvc0 hvc1
      have hzc0 := blk_cell hz6 0
      have hzc1 := blk_cell hz6 1
      have hzf0 := blk_frozen hz6 0
      have hzf1 := blk_frozen hz6 1
      have hvc0 := blk_cell hv6 0
      have hvc1 := blk_cell hv6 1
      clear hz6 hv6
      cases hri : rightImg ws en with
      | false =>
        rw [hri, if_neg (by decide)] at HE2
        subst HE2
        clear hri
        go_wp2_with fail
        exact bodyPost_ret (results_list (rs := [.cell 2 26, .tmp 3]) Try.results5 (by simp) (.cell w.heap.size 26 #[.slice none 0 0, .int .i64 0] (0, 0) _ rfl (by (with_reducible repeat (first | refine blk_drewN ?_ _ | refine blk_drew ?_ | refine blk_alloc ?_ _)); exact blk_put (blk_put HZ6.out 0 _ rfl) 1 _ rfl) Try.underlying26 rfl (by kernel_rfl) (.tmp .nil))) rfl ⟨_, rfl, Kd.R_of_own (own_nil _ _ _ _) (fun _ _ => trivial), by (with_reducible repeat (first | refine below_alloc ?_ _ | refine below_drew ?_ | refine pw_below_drewN ?_ _)); exact (HB6.out.setCell (Nat.le_refl _) _).setCell (Nat.le_refl _) _⟩
      | true =>
        rw [hri, if_pos rfl] at HE2
        subst HE2
        clear hri
        go_wp2_with fail
        exact bodyPost_ret (results_list (rs := [.cell 2 26, .tmp 3]) Try.results5 (by simp) (.cell w.heap.size 26 #[.slice Av ws.length cv, .int .i64 en] (0, 0) _ rfl (by (with_reducible repeat (first | refine blk_drewN ?_ _ | refine blk_drew ?_ | refine blk_alloc ?_ _)); exact blk_put (blk_put HZ6.out 0 _ rfl) 1 _ rfl) Try.underlying26 rfl (by kernel_rfl) (.tmp .nil))) rfl ⟨_, rfl, Kd.R_of_own (own_less (ownsRow_setCell_below (ownsRow_setCell_below HOWN6.out (by simp; omega) _) (by simp; omega) _) (by omega)) (fun _ _ => trivial), (HB6.out.setCell (Nat.le_refl _) _).setCell (Nat.le_refl _) _⟩
    | succ gk =>
      have hd : decide (i < N) = true := by have := HL.out; simp; omega
      have hi16 : (i : Int) < 16384 := by have := HL.out; omega
      have hg1 : w.heap.size + 1 ≠ w2.heap.size := by have := HS2.out; omega
      have HL4 := Aside0.mk (show 4 ≤ (l.drop (12 + 4 * i)).length by rw [List.length_drop]; have := HN2.out; have := HL.out; omega)
      have HW2 : Aside0 ((ws ++ [num4 (l.drop (12 + 4 * i))]) ++ nums4 gk (l.drop (12 + 4 * (i + 1))) = nums4 N (l.drop 12)) := by
        have h := HW.out
        simp only [nums4, List.drop_drop] at h
        rw [show 12 + 4 * i + 4 = 12 + 4 * (i + 1) from by omega] at h
        exact ⟨by rw [← h]; simp⟩
      have hcv0 := blk_cell HV.out 0
      have hcv1 := blk_cell HV.out 1
      have hfv0 := blk_frozen HV.out 0
      go_wp2_with fail
      have hBAd : BytesAt w wr.drew (w.heap.size + 1) (l.drop (12 + 4 * i)) := HBA.out
      have hBd : Below w.heap.size w wr.drew := below_drew HB.out
      have hg2 : w.heap.size + 1 < w2.heap.size := by have := HS2.out; omega
      have HBAd := Aside0.mk hBAd
      have HBd := Aside0.mk hBd
      clear hBAd hBd
      obtain ⟨i0, hi0, hz0, hz1i, hz2i⟩ := info_parts info43
      go_region_law (first | ((refine step_append_lies _ (by rfl) _ _ _ (by rfl) (w2.heap.size + 1) 43 i0 _ 1 4 Try.underlying24 hi0 hz0 hz1i hz2i rfl (by omega) vv ws.length (nums .u32 ws) (by rfl) ((own_move HO.out (fun k hk => HO4.out k (by have := own_base HO.out _ hk; omega))).alloc _) ⟨w4.heap.size, 0, none⟩ 1 1 [.int .u32 (num4 (l.drop (12 + 4 * i)))] (by rfl) (by rfl) (World.news_of_block (cs := #[.int .u32 (num4 (l.drop (12 + 4 * i)))]) (t := 43) (fr := (0, 0)) (heap_alloc_new w4 _)) (by simp [Value.oneCell']) (by omega) (by have := HWL.out; simp only [maxLen]; omega) (by have := HWL.out; omega) (by simp; rw [HS4.out]; exact Nat.le_of_lt HSZ.out) (w4.heap.size + 1) (by simp) ?_; intro gg cap w6 hown6 hgrow hat hlt6; have e6 : ∀ k, k ≤ w2.heap.size → w6.heap[k]? = w4.heap[k]? := (fun k hk => (hgrow.block k (by rw [szA]; omega) (fun e => absurd (own_base HO.out _ e.symm) (by omega))).trans (heap_alloc_old _ _ (by omega))); have k6 : w6.cell? ⟨w2.heap.size, 0, none⟩ = some vv := (World.cell?_of_block (w := w4) (e6 _ (Nat.le_refl _))).trans k4; have f6 : w6.frozen? ⟨w2.heap.size, 0, none⟩ = false := (World.frozen?_of_block (w := w4) (e6 _ (Nat.le_refl _))).trans f4; have E6 := Aside0.mk e6; have HGR := Aside0.mk hgrow; have HOWN6 := Aside0.mk hown6; clear e6 hgrow hown6)) | (go_simp; go_at_call 10; refine (take_calls (w.heap.size + 1) (l.drop (12 + 4 * i)) w _ HBAd.out HL4.out HBd.out (by omega)).mono ?_; rintro e w4 ⟨rfl, hBA4, hB4, hs4, ho4⟩; have HS4 := Aside0.mk hs4; have HO4 := Aside0.mk ho4; have HBA4 := Aside0.mk hBA4; have HB4 := Aside0.mk hB4; have k4 : w4.cell? ⟨w2.heap.size, 0, none⟩ = some vv := (World.cell?_of_block (w := wr) (HO4.out _ (Ne.symm hg1))).trans hcv0; have f4 : w4.frozen? ⟨w2.heap.size, 0, none⟩ = false := (World.frozen?_of_block (w := wr) (HO4.out _ (Ne.symm hg1))).trans hfv0; have l4 : w2.heap.size < w4.heap.size := (by rw [HS4.out]; exact HSZ.out); clear hs4 ho4 hBA4 hB4))
      all_goals
        go_wp2_with fail
        go_roundg gk
        case measure => omega
        case rel =>
          refine ⟨i + 1, ws ++ [num4 (l.drop (12 + 4 * i))], .slice (some ⟨gg, 0, none⟩) (ws.length + 1) cap, by simp, ⟨by have := HL.out; omega⟩, HW2, ⟨?_⟩, ⟨?_⟩, ⟨?_⟩, ⟨?_⟩, ⟨by have := HWL.out; simp; omega⟩, ⟨?_⟩, ⟨?_⟩⟩
          · have h := HBA4.out
            rw [List.drop_drop, show 12 + 4 * i + 4 = 12 + 4 * (i + 1) from by omega] at h
            exact h.keep ((heap_setCell_other _ _ _ _ (by simp; omega)).trans (E6.out _ (by omega)))
          · exact blk_put (cs := #[vv, .int .i64 en]) ((E6.out _ (Nat.le_refl _)).trans ((HO4.out _ (Ne.symm hg1)).trans HV.out)) 0 _ rfl
          · have h := ownsRow_setCell_below HOWN6.out (a := ⟨w2.heap.size, 0, none⟩) (by simp) (.slice (some ⟨gg, 0, none⟩) (ws.length + 1) cap)
            simpa [nums] using h
          · exact (heap_setCell_other _ _ _ _ (by simp; omega)).trans ((E6.out _ (by omega)).trans ((HO4.out _ (by omega)).trans HZ.out))
          · have := HGR.out.size
            simp only [szA] at this
            simp [World.setCell]
            omega
          · exact ((below_alloc HB4.out _).grown HGR.out (by rw [szA]; have := HB4.out.size; omega) (fun k e => by have := own_base HO.out _ e; omega)).setCell (by simp; omega) _

theorem Take_calls (A : Option Addr) (c : Nat) (l : List Int) (w : World) (hC : Kd.C (Kd.int .u8) w A l.length l) (hc : l.length ≤ c) :
   Calls Try.prog 5 #[.slice A l.length c] w fun e w' => ∃ v, e = .returned (.tuple #[.agg #[v, .int .i64 (takeF l).2.1], .int .i64 (takeF l).2.2]) ∧ Kd.R (Kd.int .u32) 43 w' w.heap.size (fun _ => True) v (takeF l).1 ∧ Below w.heap.size w w' := by
  by_cases h16 : l.length < 16
  · rw [show takeF l = ([], 0, 3) from if_pos h16]
    exact (Take_short A c l w h16).mono fun e w' ⟨he, hB⟩ => ⟨_, he, Kd.R_of_own (own_nil _ _ _ _) (fun _ _ => trivial), hB⟩
  · cases hS : ((strOfNums (l.take 4)).toList == mark) with
    | true => exact Take_main A c l w (by omega) hC hc ⟨hS⟩ _ ⟨rfl⟩
    | false =>
      rw [show takeF l = ([], 0, 3) from by unfold takeF; rw [if_neg h16, hS]; rfl]
      exact (Take_mark A c l w (by omega) hC hc ⟨hS⟩).mono fun e w' ⟨he, hB⟩ => ⟨_, he, Kd.R_of_own (own_nil _ _ _ _) (fun _ _ => trivial), hB⟩
end Go.Proofs.Ythhjnbhknnnihaa.Im
namespace Go.Proofs.Ythhjnbhknnnihaa.PImageOnly
open Go.RowKit Go.Proofs.YthhjnbhknnnihaaW.PrintWords Go.Proofs.Ythhjnbhknnnihaa.Im
def image_Take.f (l0 : List Int) : Option (List Int × Int × Int) := some (takeF l0)
theorem image_Take.calls (A0 : Option Addr) (c0 : Nat) (l0 : List Int) (r1 : List Int) (r2 : Int) (r3 : Int) (w : World) (hr0 : Kd.C (Kd.int .u8) w A0 l0.length l0) (hc0 : l0.length ≤ c0) (h : image_Take.f l0 = some (r1, r2, r3)) :
    Calls Try.prog 5 #[.slice A0 l0.length c0] w fun e w' => ∃ v0_ : Value, e = .returned (.tuple #[.agg #[v0_, .int .i64 r2], .int .i64 r3]) ∧ Kd.R (Kd.int .u32) 43 w' w.heap.size (fun _ => True) v0_ r1 ∧ Below w.heap.size w w' := by
  have hh := Take_calls A0 c0 l0 w hr0 hc0
  rw [Option.some.inj h] at hh
  exact hh
end Go.Proofs.Ythhjnbhknnnihaa.PImageOnly
