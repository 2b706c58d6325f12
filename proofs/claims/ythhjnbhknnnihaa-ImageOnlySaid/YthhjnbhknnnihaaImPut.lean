import Derived.Test.YthhjnbhknnnihaaImFull
import Derived.Lib.SlBytesConst
set_option linter.unusedVariables false
set_option linter.unusedSimpArgs false
/-! image.Put: an image as bytes. -/
namespace Go.Proofs.Ythhjnbhknnnihaa.Im
open Go.RowKit Go.Proofs.YthhjnbhknnnihaaW.PrintWords Go.Proofs.YthhjnbhknnnihaaW.PrintLast Go.Proofs.YthhjnbhknnnihaaW.PrintMore Go.Proofs.Ythhjnbhknnnihaa.Base Go.Proofs.Ythhjnbhknnnihaa.PImageOnly

theorem put_l0 (l1 : List Int) (hn : l1.length ≤ 9223372036854775807) : ∀ (n i k : Nat) (acc : List Int), i + n = l1.length → n < k → acc.length + 4 * n < 140737488355328 →
    image_put.l0 k acc l1 (l1.length : Int) (i : Int) = some (acc ++ fours (l1.drop i))
  | 0, i, k, acc, hi, hk, hs => by
    obtain ⟨k, rfl⟩ : ∃ m, k = m + 1 := ⟨k - 1, by omega⟩
    simp only [image_put.l0]
    rw [if_neg (by omega), List.drop_eq_nil_of_le (by omega)]
    simp [fours]
  | n + 1, i, k, acc, hi, hk, hs => by
    obtain ⟨k, rfl⟩ : ∃ m, k = m + 1 := ⟨k - 1, by omega⟩
    have hil : i < l1.length := by omega
    have hrd : rd l1 (i : Int) = l1[i] := by simp [rd, List.getD_eq_getElem?_getD, List.getElem?_eq_getElem hil]
    have ih := put_l0 l1 hn n (i + 1) k (acc ++ four l1[i]) (by omega) (by omega) (by simp [four]; omega)
    simp only [image_put.l0]
    rw [if_pos (by omega), if_pos (by omega), if_pos (by omega), hrd]
    simp only [Option.bind_some]
    rw [if_pos (by simp; omega)]
    have hw : wrap64 ((i : Int) + 1) = ((i + 1 : Nat) : Int) := by unfold wrap64; omega
    rw [hw]
    show image_put.l0 k (acc ++ four l1[i]) _ _ _ = _
    rw [ih, List.drop_eq_getElem_cons hil]
    simp [fours]
theorem put_f (l0 l1 : List Int) (hs : l0.length + 4 * l1.length < 140737488355328) : image_put.f (l1.length + 1) l0 l1 = some (l0 ++ fours l1) :=
  put_l0 l1 (by omega) l1.length 0 (l1.length + 1) l0 (by omega) (by omega) hs

def headB : List Int := [67, 77, 76, 49]
def putB (l : List Int) (e : Int) : List Int := headB ++ fours [((l.length : Nat) : Int), e] ++ fours l
def putF (l : List Int) (e : Int) : List Int × Int := if rightImg l e then (putB l e ++ fours [sumL (putB l e) 1], 0) else ([], 1)

set_option maxRecDepth 100000 in
set_option maxHeartbeats 4000000 in
theorem Put_no (A : Option Addr) (c : Nat) (l : List Int) (en : Int) (w : World) (hC : Kd.C (Kd.int .u32) w A l.length l) (hc : l.length ≤ c) (hr : rightImg l en = false) :
   Calls Try.prog 6 #[.agg #[.slice A l.length c, .int .i64 en]] w fun e w' => e = .returned (.tuple #[.slice none 0 0, .int .i64 1]) ∧ Below w.heap.size w w' := by
  have HC := Aside0.mk hC
  have HR := Aside0.mk hr
  have Hc := Aside0.mk hc
  clear hC hr hc
  go_enter Try.func6, Try.ntmps6
  go_wp2_with fail
  refine (image_Right.calls A c l en (rightImg l en) _ (Kd.C_below HC.out (below_alloc (Below.refl _ _) _)) Hc.out (right_eq l en)).mono ?_
  rintro e w6 ⟨rfl, hB6⟩
  have HB6 := Aside0.mk (below_step (below_alloc (Below.refl w.heap.size w) _) hB6)
  rw [HR.out]
  clear hB6
  go_wp2_with fail
  go_ret2
  exact ⟨rfl, HB6.out⟩

set_option maxRecDepth 100000 in
set_option maxHeartbeats 4000000 in
theorem Put_yes (A : Option Addr) (c : Nat) (l : List Int) (en : Int) (w : World) (hC : Kd.C (Kd.int .u32) w A l.length l) (hc : l.length ≤ c) (hr : rightImg l en = true) :
   Calls Try.prog 6 #[.agg #[.slice A l.length c, .int .i64 en]] w fun e w' => ∃ v, e = .returned (.tuple #[v, .int .i64 0]) ∧ Kd.R (Kd.int .u8) 5 w' w.heap.size (fun _ => True) v (putB l en ++ fours [sumL (putB l en) 1]) ∧ Below w.heap.size w w' := by
  have hr2 : 1 ≤ l.length ∧ l.length ≤ 16384 ∧ 0 ≤ en ∧ en < (l.length : Int) := by
    simp only [rightImg, Bool.and_eq_true, decide_eq_true_eq] at hr
    omega
  obtain ⟨hl1, hl2, he0, he1⟩ := hr2
  have HC := Aside0.mk hC
  have HR := Aside0.mk hr
  have Hc := Aside0.mk hc
  have hll : (l.length : Int) ≤ 16384 := by omega
  have hen : en ≤ 16384 := by omega
  clear hC hr hc
  go_enter Try.func6, Try.ntmps6
  go_wp2_with fail
  refine (image_Right.calls A c l en (rightImg l en) _ (Kd.C_below HC.out (below_alloc (Below.refl _ _) _)) Hc.out (right_eq l en)).mono ?_
  rintro e w6 ⟨rfl, hB6⟩
  have hb6 : w6.heap[w.heap.size]? = some (.cells #[.slice A l.length c, .int .i64 en] 26 (0, 0)) := (hB6.block _ (by simp only [szA]; omega)).trans (heap_alloc_new _ _)
  have hs6 : w.heap.size < w6.heap.size := by have := hB6.size; simp only [szA] at this; omega
  have HB6 := Aside0.mk (below_step (below_alloc (Below.refl w.heap.size w) _) hB6)
  rw [HR.out]
  clear hB6
  have hc0 := blk_cell hb6 0
  have hc1 := blk_cell hb6 1
  have kc := fun (w : World) (C : Array Value) (n c : Nat) => Lib.run_convert_bytes_const (P := Try.prog) w 22 5 C n c Try.underlying22 Try.underlying5
  go_wp2_with fail
  have hg1 : ((w6.alloc (.cells #[.int .u8 67, .int .u8 77, .int .u8 76, .int .u8 49] 5 (4, 5))).alloc (.cells #[.int .u32 (l.length : Int), .int .u32 en] 43)).heap[w6.heap.size]? = some (.cells #[.int .u8 67, .int .u8 77, .int .u8 76, .int .u8 49] 5 (4, 5)) := (heap_alloc_old _ _ (by rw [szA]; omega)).trans (heap_alloc_new _ _)
  have l1 : ((w6.alloc (.cells #[.int .u8 67, .int .u8 77, .int .u8 76, .int .u8 49] 5 (4, 5))).alloc (.cells #[.int .u32 (l.length : Int), .int .u32 en] 43)).ownsRow 0 43 1 (.slice (some ⟨w6.heap.size + 1, 0, none⟩) 2 2) 2 (nums .u32 [(l.length : Int), en]) := by
    have := own_lit (w6.alloc (.cells #[.int .u8 67, .int .u8 77, .int .u8 76, .int .u8 49] 5 (4, 5))) 0 43 .u32 [(l.length : Int), en] (Nat.zero_le _) (by simp)
    rw [szA] at this; exact this
  have hB1 : Below w.heap.size w ((w6.alloc (.cells #[.int .u8 67, .int .u8 77, .int .u8 76, .int .u8 49] 5 (4, 5))).alloc (.cells #[.int .u32 (l.length : Int), .int .u32 en] 43)) := below_alloc (below_alloc HB6.out _) _
  have hb1 : ((w6.alloc (.cells #[.int .u8 67, .int .u8 77, .int .u8 76, .int .u8 49] 5 (4, 5))).alloc (.cells #[.int .u32 (l.length : Int), .int .u32 en] 43)).heap[w.heap.size]? = some (.cells #[.slice A l.length c, .int .i64 en] 26 (0, 0)) := (heap_alloc_old _ _ (by rw [szA]; omega)).trans ((heap_alloc_old _ _ hs6).trans hb6)
  have hs1 : w6.heap.size + 2 = ((w6.alloc (.cells #[.int .u8 67, .int .u8 77, .int .u8 76, .int .u8 49] 5 (4, 5))).alloc (.cells #[.int .u32 (l.length : Int), .int .u32 en] 43)).heap.size := by simp only [szA]
  generalize (w6.alloc (.cells #[.int .u8 67, .int .u8 77, .int .u8 76, .int .u8 49] 5 (4, 5))).alloc (.cells #[.int .u32 (l.length : Int), .int .u32 en] 43) = W1 at *
  have hap : AppOK w.heap.size W1 (.slice (some ⟨w6.heap.size, 0, none⟩) headB.length headB.length) headB := .inr ⟨w6.heap.size, rfl, by omega, by omega, fun j u hu => by
    rw [show (⟨w6.heap.size, 0, none⟩ : Addr).add j = ⟨w6.heap.size, j, none⟩ from by unfold Addr.add; split <;> simp_all]
    have hc : W1.cell? ⟨w6.heap.size, j, none⟩ = (#[.int .u8 67, .int .u8 77, .int .u8 76, .int .u8 49] : Array Value)[j]? := by simp [World.cell?, hg1]
    rw [hc]
    simpa [nums, headB] using hu⟩
  refine (put_full w6.heap.size headB (some ⟨w6.heap.size + 1, 0, none⟩) 2 [(l.length : Int), en] w.heap.size w W1 hap (Nat.le_of_lt hs6) (by omega) (fun W_ hkept => ?_) (by simp) hB1 (by simp [headB])).mono ?_
  · refine Kd.C_of_reads (d := (0 : Int)) (h1 := fun _ => rfl) (own_reads_of' (own_move l1 (fun k hk => ?_)))
    have hk2 : k = w6.heap.size + 1 := by simpa [Value.ownBlock] using hk.symm
    exact hkept.2 k (own_lt l1 k hk) (by omega)
  rintro e w7 ⟨v1, rfl, -, hB7, hK7, -, hown7⟩
  have hO7 := hown7 (by simp)
  have hb7 : w7.heap[w.heap.size]? = some (.cells #[.slice A l.length c, .int .i64 en] 26 (0, 0)) := (hK7.2 _ (by omega) (by omega)).trans hb1
  have hs7 : w.heap.size < w7.heap.size := Nat.lt_of_lt_of_le (by omega) hK7.1
  have HO7 := Aside0.mk hO7
  have HB7 := Aside0.mk hB7
  obtain ⟨A1, c1, rfl⟩ := own_slice hO7
  clear hO7 hB7 hK7 hb1 hs1 hB1 l1 hc0 hc1 hb6 hs6 kc hap hg1 hown7 W1 HB6
  have hc0 := blk_cell hb7 0
  go_wp2_with fail
  refine (image_put.calls (l.length + 1) (fun k => some k = (Value.slice A1 (headB ++ fours [(l.length : Int), en]).length c1).ownBlock) (.slice A1 (headB ++ fours [(l.length : Int), en]).length c1) (headB ++ fours [(l.length : Int), en]) A c l (putB l en) w w7 HB7.out (Kd.R_of_own HO7.out (fun k hk => hk.symm)) (fun W_ hkept => ?_) Hc.out (put_f _ _ (by simp [headB, fours, four]; omega))).mono ?_
  · refine reads_move HC.out (fun i hi => ?_)
    have hi7 : i < w7.heap.size := by omega
    rw [hkept.2 i hi7 (fun hk => ?_), HB7.out.block i hi]
    have := own_base HO7.out i hk.symm
    omega
  rintro e w8 ⟨v2, rfl, hR8, hB8, hK8⟩
  obtain ⟨pb, hpb⟩ : ∃ x, x = putB l en := ⟨_, rfl⟩
  have hn8 : (putB l en).length = 12 + 4 * l.length := by simp [putB, headB, fours, four, fours_len]; omega
  rw [← hpb] at hn8 hR8
  have HP := Aside0.mk hpb
  clear hpb
  have hs8 : w.heap.size < w8.heap.size := Nat.lt_of_lt_of_le hs7 hK8.1
  have HR8 := Aside0.mk (Kd.R_mono (ok' := fun _ => True) hR8 (fun _ _ => trivial))
  have HB8 := Aside0.mk hB8
  obtain ⟨A2, c2, rfl⟩ := Kd.R_slice hR8
  have Hn8 := Aside0.mk hn8
  clear hR8 hB8 hK8 hn8 hs7 hc0 hb7 HO7 HB7 w7 HC HR
  go_wp2_with fail
  refine (adder_calls w8).mono ?_
  rintro e w9 ⟨rfl, rfl⟩
  go_wp2_with fail
  refine (sum_calls w8.heap.size A2 c2 (pb) _ (heap_alloc_new _ _) (Kd.C_alloc (Kd.R_reads' HR8.out).2.2 _) (fun ad had hh => ?_) w.heap.size w (below_alloc HB8.out _) (Nat.le_of_lt hs8) _ rfl).mono ?_
  · subst had
    have := Kd.R_lt HR8.out ad.block rfl
    omega
  rintro e w10 ⟨rfl, hB10, hs10, hj10⟩
  have hs10' : w10.heap.size = w8.heap.size + 1 := by rw [hs10, szA]
  have hm10 : ∀ k, k < w8.heap.size → w10.heap[k]? = w8.heap[k]? := fun k hk => (hj10 k (by omega)).trans (heap_alloc_old _ _ hk)
  have HR10 := Aside0.mk (Kd.R_step HR8.out (fun k _ hk => hm10 k hk))
  have HB10 := Aside0.mk hB10
  clear hB10 hs10 hj10 hm10 HR8 HB8
  obtain ⟨s, hsum⟩ : ∃ s, s = sumL pb 1 := ⟨_, rfl⟩
  rw [← hsum]
  have HS := Aside0.mk hsum
  clear hsum
  go_wp2_with fail
  have hput := put_f pb [s] (by have := Hn8.out; simp; omega)
  have l10 : (w10.alloc (.cells #[.int .u32 s] 43)).ownsRow 0 43 1 (.slice (some ⟨w10.heap.size, 0, none⟩) 1 1) 1 (nums .u32 [s]) := own_lit w10 0 43 .u32 [s] (Nat.zero_le _) (by simp)
  have o10 : w10.ownsRow w.heap.size 5 1 (.slice A2 pb.length c2) pb.length (nums .u8 pb) := Kd.own_of_R HR10.out
  have r10 : Kd.R (Kd.int .u8) 5 (w10.alloc (.cells #[.int .u32 s] 43)) w.heap.size (fun k => some k = (Value.slice A2 pb.length c2).ownBlock) (.slice A2 pb.length c2) pb := Kd.R_of_own (own_alloc o10 _) (fun k hk => hk.symm)
  have b10 : Below w.heap.size w (w10.alloc (.cells #[.int .u32 s] 43)) := below_alloc HB10.out _
  have hcc10 : ∀ W_, Kept (w10.alloc (.cells #[.int .u32 s] 43)) W_ (fun k => some k = (Value.slice A2 pb.length c2).ownBlock) → Kd.C (Kd.int .u32) W_ (some ⟨w10.heap.size, 0, none⟩) [s].length [s] := by
    intro W_ hkept
    refine Kd.C_of_reads (d := (0 : Int)) (h1 := fun _ => rfl) (own_reads_of' (own_move l10 (fun k hk => ?_)))
    have hk2 : k = w10.heap.size := by simpa [Value.ownBlock] using hk.symm
    exact hkept.2 k (own_lt l10 k hk) (fun hk3 => by have := Kd.R_lt HR10.out k hk3.symm; omega)
  have call3 := image_put.calls ([s].length + 1) (fun k => some k = (Value.slice A2 pb.length c2).ownBlock) (.slice A2 pb.length c2) pb (some ⟨w10.heap.size, 0, none⟩) 1 [s] (pb ++ fours [s]) w _ b10 r10 hcc10 (by simp) hput
  have hsz : (some (⟨w10.heap.size, 0, none⟩ : Addr)) = some ⟨w8.heap.size + 1, 0, none⟩ := by rw [hs10']
  rw [hsz] at call3
  refine call3.mono ?_
  rintro e w11 ⟨v3, rfl, hR11, hB11, -⟩
  have HR11 := Aside0.mk (Kd.R_mono (ok' := fun _ => True) hR11 (fun _ _ => trivial))
  have HB11 := Aside0.mk hB11
  obtain ⟨A3, c3, rfl⟩ := Kd.R_slice hR11
  clear hR11 hB11 l10
  go_wp2_with fail
  go_ret2
  have h1 := HR11.out
  rw [List.length_append] at h1
  have h2 : Kd.R (Kd.int .u8) 5 w11 w.heap.size (fun _ => True) (.slice A3 (pb.length + (fours [s]).length) c3) (putB l en ++ fours [sumL (putB l en) 1]) := by
    rw [← HP.out, ← HS.out]
    exact h1
  exact ⟨_, rfl, h2, HB11.out⟩
end Go.Proofs.Ythhjnbhknnnihaa.Im
namespace Go.Proofs.Ythhjnbhknnnihaa.PImageOnly
open Go.RowKit Go.Proofs.YthhjnbhknnnihaaW.PrintWords Go.Proofs.YthhjnbhknnnihaaW.PrintLast Go.Proofs.YthhjnbhknnnihaaW.PrintMore Go.Proofs.Ythhjnbhknnnihaa.Im
def image_Put.f (l0_0 : List Int) (a0_1 : Int) : Option (List Int × Int) := some (putF l0_0 a0_1)
theorem image_Put.calls (A0 : Option Addr) (c0 : Nat) (l0_0 : List Int) (a0_1 : Int) (r1 : List Int) (r2 : Int) (w : World) (hr0 : Kd.C (Kd.int .u32) w A0 l0_0.length l0_0) (hc0 : l0_0.length ≤ c0) (h : image_Put.f l0_0 a0_1 = some (r1, r2)) :
    Calls Try.prog 6 #[.agg #[.slice A0 l0_0.length c0, .int .i64 a0_1]] w fun e w' => ∃ v0_ : Value, e = .returned (.tuple #[v0_, .int .i64 r2]) ∧ Kd.R (Kd.int .u8) 5 w' w.heap.size (fun _ => True) v0_ r1 ∧ Below w.heap.size w w' := by
  simp only [image_Put.f, Option.some.injEq] at h
  cases hr : rightImg l0_0 a0_1 with
  | true =>
    simp only [putF, hr, if_true, Prod.mk.injEq] at h
    obtain ⟨rfl, rfl⟩ := h
    exact Put_yes A0 c0 l0_0 a0_1 w hr0 hc0 hr
  | false =>
    simp only [putF, hr, Bool.false_eq_true, if_false, Prod.mk.injEq] at h
    obtain ⟨rfl, rfl⟩ := h
    refine (Put_no A0 c0 l0_0 a0_1 w hr0 hc0 hr).mono ?_
    rintro e w' ⟨rfl, hB⟩
    exact ⟨_, rfl, Kd.R_nil _ _ _ _ _, hB⟩
end Go.Proofs.Ythhjnbhknnnihaa.PImageOnly
