import Derived.Test.YthhjnbhknnnihaaAsmWrong
import Derived.Test.YthhjnbhknnnihaaPut
set_option linter.unusedVariables false
set_option linter.unusedSimpArgs false
/-! asm.Of: lines' words. -/
namespace Go.Proofs.Ythhjnbhknnnihaa.Asm
open Go.RowKit Go.Proofs.YthhjnbhknnnihaaW.PrintWords Go.Proofs.YthhjnbhknnnihaaW.PrintLast Go.Proofs.YthhjnbhknnnihaaW.PrintMore Go.Proofs.Ythhjnbhknnnihaa.Base Go.Proofs.Ythhjnbhknnnihaa.Isa Go.Proofs.Ythhjnbhknnnihaa.PImageOnly

theorem strMap_grown {w w1 : World} {b base : Nat} {e : TypeId} {sz n : Nat} {v : Value} {xs : List Value} {L : List (ByteArray × Int)} (h : StrMap w b L) (ho : w.ownsRow base e sz v n xs) (hg : w.grownBy w1 v.ownBlock) : StrMap w1 b L :=
  h.keep (hg.block b h.lt (fun he => by
    obtain ⟨cs, hc⟩ := own_typed ho b he.symm
    obtain ⟨es, cl, h1, _⟩ := h
    rw [h1] at hc
    cases hc))

def firstsL : List S39 → Int → List (ByteArray × Int) → List (ByteArray × Int)
  | [], _, L => L
  | x :: r, i, L => firstsL r (i + 1) (if x.f0.toList.isEmpty = true then L else if (lk L x.f0).isSome = true then L else L ++ [(x.f0, i)])
theorem info43 : (Try.prog.info? 43).map (fun i => (i.zero, i.size, i.bytes)) = some (some (.int .u32 0), 1, 4) := by kernel_rfl
def numF (L : List (ByteArray × Int)) (x : S39) (i : Int) : Int :=
  if x.f2.toList.isEmpty = true then x.f1.f4 else if x.f1.f0 = 1 then wrap64 (wrap64 (2 * (lk L x.f2).getD 0) + 1) else wrap64 (wrap64 ((lk L x.f2).getD 0 - i) - 1)
def ofL (L : List (ByteArray × Int)) : List S39 → Int → List Int → List Int × Int × Int
  | [], _, acc => (acc, 0, 0)
  | x :: r, i, acc => if wrongF x.f0 x.f2 x.f1.f0 i L = 0 then
      (if (putR x.f1.f0 x.f1.f1 x.f1.f2 x.f1.f3 (numF L x i)).2 = 0 then ofL L r (i + 1) (acc ++ [(putR x.f1.f0 x.f1.f1 x.f1.f2 x.f1.f3 (numF L x i)).1])
       else ([], i, (putR x.f1.f0 x.f1.f1 x.f1.f2 x.f1.f3 (numF L x i)).2))
      else ([], i, wrongF x.f0 x.f2 x.f1.f0 i L)
def ofF (l : List S39) : List Int × Int × Int := if 16384 < l.length then ([], 16384, 4) else ofL (firstsL l 0 []) l 0 []
def fine (x : S39) : Prop := x.f0.size ≤ 9223372036854775807 ∧ x.f2.size ≤ 9223372036854775807

set_option maxRecDepth 100000 in
set_option maxHeartbeats 8000000 in
theorem of_small (A0 : Option Addr) (c0 : Nat) (l : List S39) (w : World) (hr0 : Kd.C k39 w A0 l.length l) (hf : ∀ x ∈ l, fine x) (hl : l.length ≤ 16384) (r : List Int × Int × Int) (hr : ofL (firstsL l 0 []) l 0 [] = r) :
    Calls Try.prog 13 #[.slice A0 l.length c0] w fun e w' => ∃ v, e = .returned (.tuple #[v, .int .i64 r.2.1, .int .i64 r.2.2]) ∧ Kd.R (Kd.int .u32) 43 w' w.heap.size (fun _ => True) v r.1 ∧ Below w.heap.size w w' := by
  have hmm := @run_makeMap Try.prog
  have hu39 := Try.underlying39
  have HR0 := Aside0.mk hr0
  have HF := Aside0.mk hf
  have HE := Aside0.mk hr
  have hlen : decide (16384 < (l.length : Int)) = false := by simp; omega
  have HLn := Aside0.mk hl
  clear hr0 hf hr hl
  go_enter Try.func13, Try.ntmps13
  go_wp2_with fail
  go_loopg [24] l.length (fun gk v24 wr => ∃ (i : Nat) (L : List (ByteArray × Int)), v24 = .int .i64 (i : Int) ∧ Aside0 (i + gk = l.length) ∧ Aside0 (firstsL (l.drop i) (i : Int) L = firstsL l 0 []) ∧ Aside0 (StrMap wr w.heap.size L) ∧ Aside0 (Below w.heap.size w wr))
  case atStart => exact ⟨0, [], rfl, ⟨by omega⟩, ⟨rfl⟩, ⟨strMap_made w⟩, ⟨below_alloc (Below.refl _ _) _⟩⟩
  case round =>
    obtain ⟨i, L, rfl, HL, HFi, HM, HB⟩ := hrel
    cases gk with
    | zero =>
      have hd : decide (i < l.length) = false := by have := HL.out; simp; omega
      have HE2 : ofL L l 0 [] = r := by
        have h0 := HFi.out
        rw [List.drop_eq_nil_of_le (by have := HL.out; omega)] at h0
        simp only [firstsL] at h0
        rw [h0]
        exact HE.out
      have HE2 := Aside0.mk HE2
      clear HE HFi HL
      go_wp2_with fail
      clear hd
      go_loopg [50, 10] l.length (fun gk v50 v10 wr2 => ∃ (j : Nat) (ws : List Int) (vv : Value), v50 = .int .i64 (j : Int) ∧ v10 = vv ∧ Aside0 (j + gk = l.length) ∧ Aside0 (ofL L (l.drop j) (j : Int) ws = r) ∧ Aside0 (wr2.ownsRow w.heap.size 43 1 vv ws.length (nums .u32 ws)) ∧ Aside0 (ws.length = j) ∧ Aside0 (StrMap wr2 w.heap.size L) ∧ Aside0 (Below w.heap.size w wr2))
      case atStart => exact ⟨0, [], _, rfl, rfl, ⟨by omega⟩, HE2, ⟨own_nil _ _ _ _⟩, ⟨rfl⟩, HM, HB⟩
      case round =>
        clear HB HM HE2
        obtain ⟨i, ws, vv, rfl, rfl, HL, HE2, HO, HW, HM, HB⟩ := hrel
        cases gk with
        | zero =>
          have hd : decide (i < l.length) = false := by have := HL.out; simp; omega
          have H := HE2.out
          rw [List.drop_eq_nil_of_le (by have := HL.out; omega)] at H
          simp only [ofL] at H
          subst H
          clear HE2
          go_wp2_with fail
          go_ret3
          exact ⟨_, rfl, Kd.R_of_own HO.out (fun _ _ => trivial), HB.out⟩
        | succ gk =>
          have hd : decide (i < l.length) = true := by have := HL.out; simp; omega
          have hil : i < l.length := by have := HL.out; omega
          have hx1 : (i : Int) < (l.length : Int) := by omega
          obtain ⟨ad, ead, hx0, hx1', hx2, hx3, hx4, hx5, hx6⟩ := at_T39 HR0.out (i : Int) (by omega) hx1
          cases ead
          simp only [Int.toNat_natCast] at hx0 hx1' hx2 hx3 hx4 hx5 hx6
          replace hx0 := (HB.out.cell (World.block_lt_of_cell? w _ hx0)).trans hx0
          replace hx1' := (HB.out.cell (World.block_lt_of_cell? w _ hx1')).trans hx1'
          replace hx2 := (HB.out.cell (World.block_lt_of_cell? w _ hx2)).trans hx2
          replace hx3 := (HB.out.cell (World.block_lt_of_cell? w _ hx3)).trans hx3
          replace hx4 := (HB.out.cell (World.block_lt_of_cell? w _ hx4)).trans hx4
          replace hx5 := (HB.out.cell (World.block_lt_of_cell? w _ hx5)).trans hx5
          replace hx6 := (HB.out.cell (World.block_lt_of_cell? w _ hx6)).trans hx6
          have hxl0 : l[i] = rd_T39 l (i : Int) := by simp [rd_T39, List.getD_eq_getElem?_getD, List.getElem?_eq_getElem hil]
          have hfine := HF.out l[i] (List.getElem_mem hil)
          rw [hxl0] at hfine
          have HFine := Aside0.mk hfine
          have hxl := Aside0.mk hxl0
          clear hfine hxl0
          generalize rd_T39 l (i : Int) = x at *
          obtain ⟨lab, ⟨k, d, a, b, n⟩, tgt⟩ := x
          simp only at hx0 hx1' hx2 hx3 hx4 hx5 hx6
          have H := HE2.out
          rw [List.drop_eq_getElem_cons hil, hxl.out] at H
          simp only [ofL] at H
          have hi16 : (i : Int) < 16384 := by have := HLn.out; omega
          go_wp2_with fail
          refine (wrong_calls lab tgt k d a b n (i : Int) w.heap.size L HFine.out.1 HFine.out.2 _ (HM.out.alloc _)).mono ?_
          rintro e w3 ⟨rfl, hB3⟩
          have hb3 : w3.heap[wr.heap.size]? = some (.cells #[.string lab, .int .i64 k, .int .i64 d, .int .i64 a, .int .i64 b, .int .i64 n, .string tgt] 39 (0, 0)) := (hB3.block _ (by simp only [szA]; omega)).trans (heap_alloc_new _ _)
          have HM3 := Aside0.mk ((HM.out.alloc (.cells #[.string lab, .int .i64 k, .int .i64 d, .int .i64 a, .int .i64 b, .int .i64 n, .string tgt] 39)).below hB3)
          have HO3 := Aside0.mk (pw_own_below (own_alloc HO.out (.cells #[.string lab, .int .i64 k, .int .i64 d, .int .i64 a, .int .i64 b, .int .i64 n, .string tgt] 39)) hB3)
          have HB3 := Aside0.mk (below_step (below_alloc HB.out (.cells #[.string lab, .int .i64 k, .int .i64 d, .int .i64 a, .int .i64 b, .int .i64 n, .string tgt] 39)) hB3)
          have hs3 : wr.heap.size < w3.heap.size := by have := hB3.size; simp only [szA] at this; omega
          clear hB3 HM HO HB HE2 HFine
          clear hx0 hx1' hx2 hx3 hx4 hx5 hx6
          by_cases hw : wrongF lab tgt k (i : Int) L = 0
          · rw [if_pos hw] at H
            rw [hw]
            have hc0 := blk_cell hb3 0
            have hc1 := blk_cell hb3 1
            have hc2 := blk_cell hb3 2
            have hc3 := blk_cell hb3 3
            have hc4 := blk_cell hb3 4
            have hc5 := blk_cell hb3 5
            have hc6 := blk_cell hb3 6
            have hl2 := (run_lookup_str (P := Try.prog) (T := 54) (K := 9) (E := 3) Try.underlying54 Try.underlying9 Try.underlying3 zero3 (HM3.out.alloc (.cells #[.int .i64 k, .int .i64 d, .int .i64 a, .int .i64 b, .int .i64 n] 37)) tgt).2
            obtain ⟨tv, htv⟩ : ∃ tv, (lk L tgt).getD 0 = tv := ⟨_, rfl⟩
            rw [htv] at hl2
            by_cases ht : tgt.toList.isEmpty = true
            · have hnum : numF L ⟨lab, ⟨k, d, a, b, n⟩, tgt⟩ (i : Int) = n := by simp only [numF]; rw [if_pos ht]
              rw [hnum] at H
              clear hnum htv hw
              go_wp2_with fail
              refine (put_calls k d a b (n) _).mono ?_
              rintro e w5 ⟨rfl, hB5⟩
              have HM5 := Aside0.mk ((HM3.out.alloc (.cells #[.int .i64 k, .int .i64 d, .int .i64 a, .int .i64 b, .int .i64 (n)] 37)).below hB5)
              have HO5 := Aside0.mk (pw_own_below (own_alloc HO3.out (.cells #[.int .i64 k, .int .i64 d, .int .i64 a, .int .i64 b, .int .i64 (n)] 37)) hB5)
              have HB5 := Aside0.mk (below_step (below_alloc HB3.out (.cells #[.int .i64 k, .int .i64 d, .int .i64 a, .int .i64 b, .int .i64 (n)] 37)) hB5)
              have hge : w.heap.size ≤ w5.heap.size := HB5.out.size
              clear hB5 HM3 HO3 HB3 hc0 hc1 hc2 hc3 hc4 hc5 hc6 hb3 hs3
              obtain ⟨pr, hpr⟩ : ∃ pr, putR k d a b (n) = pr := ⟨_, rfl⟩
              rw [hpr] at H
              rw [hpr]
              clear hpr
              obtain ⟨pw, pe⟩ := pr
              simp only at H ⊢
              by_cases hpe : pe = 0
              · rw [if_pos hpe] at H
                subst hpe
                have HE5 := Aside0.mk H
                clear H
                go_wp2_with (at_builtin; refine print_append_num (w0 := w) w.heap.size rfl (.tmp 93) (.tmp 95) 24 43 .u32 4 (by rfl) Try.underlying24 info43 (by decide) u10 ws pw (by rfl) (by rfl) HO5.out HB5.out hge (by have := HW.out; omega) ?_)
                intro v1 w6 hown6 hb6 hg6 _
                have HO6 := Aside0.mk (show w6.ownsRow w.heap.size 43 1 v1 (ws ++ [pw]).length (nums .u32 (ws ++ [pw])) by simpa using hown6)
                have HB6 := Aside0.mk hb6
                have HM6 := Aside0.mk (strMap_grown HM5.out HO5.out hg6)
                clear hown6 hb6 hg6
                go_wp2_with fail
                go_roundg gk
                case measure => omega
                case rel => exact ⟨i + 1, ws ++ [pw], v1, by simp, rfl, ⟨by have := HL.out; omega⟩, by simpa using HE5, HO6, ⟨by have := HW.out; simp; omega⟩, HM6, HB6⟩
              · rw [if_neg hpe] at H
                subst H
                have hpe' : (pe != 0) = true := by simp [hpe]
                clear hpe
                go_wp2_with fail
                go_ret3
                exact ⟨_, rfl, Kd.R_of_own (own_nil _ _ _ _) (fun _ _ => trivial), HB5.out⟩
            · have ht' : tgt.toList.isEmpty = false := by cases h : tgt.toList.isEmpty with | true => exact absurd h ht | false => rfl
              by_cases hk : k = 1
              · subst hk
                have hnum : numF L ⟨lab, ⟨1, d, a, b, n⟩, tgt⟩ (i : Int) = wrap64 (wrap64 (2 * tv) + 1) := by simp only [numF]; rw [if_neg ht, htv]; rfl
                rw [hnum] at H
                clear hnum htv hw ht
                go_wp2_with fail
                refine (put_calls 1 d a b (wrap64 (wrap64 (2 * tv) + 1)) _).mono ?_
                rintro e w5 ⟨rfl, hB5⟩
                have HM5 := Aside0.mk ((HM3.out.alloc (.cells #[.int .i64 1, .int .i64 d, .int .i64 a, .int .i64 b, .int .i64 (wrap64 (wrap64 (2 * tv) + 1))] 37)).below hB5)
                have HO5 := Aside0.mk (pw_own_below (own_alloc HO3.out (.cells #[.int .i64 1, .int .i64 d, .int .i64 a, .int .i64 b, .int .i64 (wrap64 (wrap64 (2 * tv) + 1))] 37)) hB5)
                have HB5 := Aside0.mk (below_step (below_alloc HB3.out (.cells #[.int .i64 1, .int .i64 d, .int .i64 a, .int .i64 b, .int .i64 (wrap64 (wrap64 (2 * tv) + 1))] 37)) hB5)
                have hge : w.heap.size ≤ w5.heap.size := HB5.out.size
                clear hB5 HM3 HO3 HB3 hc0 hc1 hc2 hc3 hc4 hc5 hc6 hb3 hs3
                obtain ⟨pr, hpr⟩ : ∃ pr, putR 1 d a b (wrap64 (wrap64 (2 * tv) + 1)) = pr := ⟨_, rfl⟩
                rw [hpr] at H
                rw [hpr]
                clear hpr
                obtain ⟨pw, pe⟩ := pr
                simp only at H ⊢
                by_cases hpe : pe = 0
                · rw [if_pos hpe] at H
                  subst hpe
                  have HE5 := Aside0.mk H
                  clear H
                  go_wp2_with (at_builtin; refine print_append_num (w0 := w) w.heap.size rfl (.tmp 93) (.tmp 95) 24 43 .u32 4 (by rfl) Try.underlying24 info43 (by decide) u10 ws pw (by rfl) (by rfl) HO5.out HB5.out hge (by have := HW.out; omega) ?_)
                  intro v1 w6 hown6 hb6 hg6 _
                  have HO6 := Aside0.mk (show w6.ownsRow w.heap.size 43 1 v1 (ws ++ [pw]).length (nums .u32 (ws ++ [pw])) by simpa using hown6)
                  have HB6 := Aside0.mk hb6
                  have HM6 := Aside0.mk (strMap_grown HM5.out HO5.out hg6)
                  clear hown6 hb6 hg6
                  go_wp2_with fail
                  go_roundg gk
                  case measure => omega
                  case rel => exact ⟨i + 1, ws ++ [pw], v1, by simp, rfl, ⟨by have := HL.out; omega⟩, by simpa using HE5, HO6, ⟨by have := HW.out; simp; omega⟩, HM6, HB6⟩
                · rw [if_neg hpe] at H
                  subst H
                  have hpe' : (pe != 0) = true := by simp [hpe]
                  clear hpe
                  go_wp2_with fail
                  go_ret3
                  exact ⟨_, rfl, Kd.R_of_own (own_nil _ _ _ _) (fun _ _ => trivial), HB5.out⟩
              · have hk' : (k == 1) = false := by simp [hk]
                have hnum : numF L ⟨lab, ⟨k, d, a, b, n⟩, tgt⟩ (i : Int) = wrap64 (wrap64 (tv - (i : Int)) - 1) := by simp only [numF]; rw [if_neg ht, if_neg hk, htv]
                rw [hnum] at H
                clear hnum htv hw ht hk
                go_wp2_with fail
                refine (put_calls k d a b (wrap64 (wrap64 (tv - (i : Int)) - 1)) _).mono ?_
                rintro e w5 ⟨rfl, hB5⟩
                have HM5 := Aside0.mk ((HM3.out.alloc (.cells #[.int .i64 k, .int .i64 d, .int .i64 a, .int .i64 b, .int .i64 (wrap64 (wrap64 (tv - (i : Int)) - 1))] 37)).below hB5)
                have HO5 := Aside0.mk (pw_own_below (own_alloc HO3.out (.cells #[.int .i64 k, .int .i64 d, .int .i64 a, .int .i64 b, .int .i64 (wrap64 (wrap64 (tv - (i : Int)) - 1))] 37)) hB5)
                have HB5 := Aside0.mk (below_step (below_alloc HB3.out (.cells #[.int .i64 k, .int .i64 d, .int .i64 a, .int .i64 b, .int .i64 (wrap64 (wrap64 (tv - (i : Int)) - 1))] 37)) hB5)
                have hge : w.heap.size ≤ w5.heap.size := HB5.out.size
                clear hB5 HM3 HO3 HB3 hc0 hc1 hc2 hc3 hc4 hc5 hc6 hb3 hs3
                obtain ⟨pr, hpr⟩ : ∃ pr, putR k d a b (wrap64 (wrap64 (tv - (i : Int)) - 1)) = pr := ⟨_, rfl⟩
                rw [hpr] at H
                rw [hpr]
                clear hpr
                obtain ⟨pw, pe⟩ := pr
                simp only at H ⊢
                by_cases hpe : pe = 0
                · rw [if_pos hpe] at H
                  subst hpe
                  have HE5 := Aside0.mk H
                  clear H
                  go_wp2_with (at_builtin; refine print_append_num (w0 := w) w.heap.size rfl (.tmp 93) (.tmp 95) 24 43 .u32 4 (by rfl) Try.underlying24 info43 (by decide) u10 ws pw (by rfl) (by rfl) HO5.out HB5.out hge (by have := HW.out; omega) ?_)
                  intro v1 w6 hown6 hb6 hg6 _
                  have HO6 := Aside0.mk (show w6.ownsRow w.heap.size 43 1 v1 (ws ++ [pw]).length (nums .u32 (ws ++ [pw])) by simpa using hown6)
                  have HB6 := Aside0.mk hb6
                  have HM6 := Aside0.mk (strMap_grown HM5.out HO5.out hg6)
                  clear hown6 hb6 hg6
                  go_wp2_with fail
                  go_roundg gk
                  case measure => omega
                  case rel => exact ⟨i + 1, ws ++ [pw], v1, by simp, rfl, ⟨by have := HL.out; omega⟩, by simpa using HE5, HO6, ⟨by have := HW.out; simp; omega⟩, HM6, HB6⟩
                · rw [if_neg hpe] at H
                  subst H
                  have hpe' : (pe != 0) = true := by simp [hpe]
                  clear hpe
                  go_wp2_with fail
                  go_ret3
                  exact ⟨_, rfl, Kd.R_of_own (own_nil _ _ _ _) (fun _ _ => trivial), HB5.out⟩
          · rw [if_neg hw] at H
            have hw' : (wrongF lab tgt k (i : Int) L != 0) = true := by simp [hw]
            clear hw
            obtain ⟨ee, hee⟩ : ∃ ee, wrongF lab tgt k (i : Int) L = ee := ⟨_, rfl⟩
            rw [hee] at H hw'
            rw [hee]
            clear hee
            subst H
            go_wp2_with fail
            go_ret3
            exact ⟨_, rfl, Kd.R_of_own (own_nil _ _ _ _) (fun _ _ => trivial), HB3.out⟩
    | succ gk =>
      have hd : decide (i < l.length) = true := by have := HL.out; simp; omega
      have hil : i < l.length := by have := HL.out; omega
      have hx1 : (i : Int) < (l.length : Int) := by omega
      obtain ⟨ad, ead, hx0, hx1', hx2, hx3, hx4, hx5, hx6⟩ := at_T39 HR0.out (i : Int) (by omega) hx1
      cases ead
      simp only [Int.toNat_natCast] at hx0 hx1' hx2 hx3 hx4 hx5 hx6
      replace hx0 := (HB.out.cell (World.block_lt_of_cell? w _ hx0)).trans hx0
      replace hx1' := (HB.out.cell (World.block_lt_of_cell? w _ hx1')).trans hx1'
      replace hx2 := (HB.out.cell (World.block_lt_of_cell? w _ hx2)).trans hx2
      replace hx3 := (HB.out.cell (World.block_lt_of_cell? w _ hx3)).trans hx3
      replace hx4 := (HB.out.cell (World.block_lt_of_cell? w _ hx4)).trans hx4
      replace hx5 := (HB.out.cell (World.block_lt_of_cell? w _ hx5)).trans hx5
      replace hx6 := (HB.out.cell (World.block_lt_of_cell? w _ hx6)).trans hx6
      have hxl := Aside0.mk (show l[i] = rd_T39 l (i : Int) by simp [rd_T39, List.getD_eq_getElem?_getD, List.getElem?_eq_getElem hil])
      generalize rd_T39 l (i : Int) = x at *
      obtain ⟨lab, ⟨k, d, a, b, n⟩, tgt⟩ := x
      simp only at hx0 hx1' hx2 hx3 hx4 hx5 hx6
      have hMA := HM.out.alloc (.cells #[.string lab, .int .i64 k, .int .i64 d, .int .i64 a, .int .i64 b, .int .i64 n, .string tgt] 39)
      have hl1 := (run_lookup_str (P := Try.prog) (T := 54) (K := 9) (E := 3) Try.underlying54 Try.underlying9 Try.underlying3 zero3 hMA lab).1
      have hBA := Aside0.mk (below_alloc HB.out (.cells #[.string lab, .int .i64 k, .int .i64 d, .int .i64 a, .int .i64 b, .int .i64 n, .string tgt] 39))
      have HF2 := HFi.out
      rw [List.drop_eq_getElem_cons hil, hxl.out] at HF2
      simp only [firstsL] at HF2
      have hi16 : (i : Int) < 16384 := by have := HLn.out; omega
      clear HFi hMA
      by_cases h1 : lab.toList.isEmpty = true
      · rw [if_pos h1] at HF2
        have HF3 := Aside0.mk HF2
        clear HF2
        go_wp2_with fail
        go_roundg gk
        case measure => omega
        case rel => exact ⟨i + 1, L, by simp, ⟨by have := HL.out; omega⟩, by simpa using HF3, ⟨HM.out.alloc _⟩, hBA⟩
      rw [if_neg h1] at HF2
      have h1' : lab.toList.isEmpty = false := by cases h : lab.toList.isEmpty with | true => exact absurd h h1 | false => rfl
      clear h1
      cases h2 : (lk L lab).isSome with
      | true =>
        rw [h2] at hl1
        rw [if_pos h2] at HF2
        have HF3 := Aside0.mk HF2
        clear HF2 h2
        go_wp2_with fail
        go_roundg gk
        case measure => omega
        case rel => exact ⟨i + 1, L, by simp, ⟨by have := HL.out; omega⟩, by simpa using HF3, ⟨HM.out.alloc _⟩, hBA⟩
      | false =>
        rw [h2] at hl1
        rw [if_neg (by rw [h2]; decide)] at HF2
        have HF3 := Aside0.mk HF2
        have hlk : lk L lab = none := by cases h : lk L lab with | none => rfl | some v => rw [h] at h2; cases h2
        obtain ⟨w2, hup, hM2, hB2, -⟩ := run_mapUpdate_str (P := Try.prog) (T := 54) (K := 9) (E := 3) Try.underlying54 Try.underlying9 (HM.out.alloc (.cells #[.string lab, .int .i64 k, .int .i64 d, .int .i64 a, .int .i64 b, .int .i64 n, .string tgt] 39)) lab hlk (i : Int)
        have HM2 := Aside0.mk hM2
        have HB2 := Aside0.mk (hB2 _ _ hBA.out (Nat.le_refl _))
        clear HF2 h2 hlk hM2 hB2
        go_wp2_with fail
        go_roundg gk
        case measure => omega
        case rel => exact ⟨i + 1, L ++ [(lab, (i : Int))], by simp, ⟨by have := HL.out; omega⟩, by simpa using HF3, HM2, HB2⟩
end Go.Proofs.Ythhjnbhknnnihaa.Asm
