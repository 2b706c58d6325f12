import Derived.Test.YthhjnbhknnnihaaBase
import Derived.Test.YthhjnbhknnnihaaPImageOnlyx
set_option linter.unusedVariables false
set_option linter.unusedSimpArgs false
/-! image.take, image.adder: a number cut off from bytes; a sum that grows. -/
namespace Go.Proofs.Ythhjnbhknnnihaa.Im
open Go.RowKit Go.Proofs.YthhjnbhknnnihaaW.PrintWords Go.Proofs.YthhjnbhknnnihaaW.PrintLast Go.Proofs.YthhjnbhknnnihaaW.PrintMore Go.Proofs.Ythhjnbhknnnihaa.Base Go.Proofs.Ythhjnbhknnnihaa.PImageOnly

def be4 (b0 b1 b2 b3 : Int) : Int := bits .or .u32 (bits .or .u32 (bits .or .u32 (b0 % 4294967296 * 16777216 % 4294967296) (b1 % 4294967296 * 65536 % 4294967296)) (b2 % 4294967296 * 256 % 4294967296)) (b3 % 4294967296)
def num4 (l : List Int) : Int := be4 (l.getD 0 0) (l.getD 1 0) (l.getD 2 0) (l.getD 3 0)

/-- The variable in block g reads as a slice whose bytes are l, as they were in the world w0. -/
def BytesAt (w0 w : World) (g : Nat) (l : List Int) : Prop :=
  ∃ A c, w.heap[g]? = some (.cells #[.slice A l.length c] 22 (0, 0)) ∧ l.length ≤ c ∧ Kd.C (Kd.int .u8) w0 A l.length l
theorem BytesAt.keep {w0 w w' : World} {g : Nat} {l : List Int} (h : BytesAt w0 w g l) (he : w'.heap[g]? = w.heap[g]?) : BytesAt w0 w' g l := by
  obtain ⟨A, c, h1, h2, h3⟩ := h
  exact ⟨A, c, he.trans h1, h2, h3⟩
theorem bytes_start {A : Option Addr} {l : List Int} {w : World} (hl : 0 < l.length) (hC : Kd.C (Kd.int .u8) w A l.length l) :
    ∃ b o, A = some ⟨b, o, none⟩ ∧ b < w.heap.size ∧ l.length ≤ 9223372036854775807 ∧ ∀ j, j < l.length → w.cell? ⟨b, o + j, none⟩ = some (.int .u8 (l.getD j 0)) := by
  obtain ⟨_, hm, hat⟩ := Kd.reads_of_C (d := (0 : Int)) (h1 := fun _ => rfl) hC
  obtain ⟨ad, rfl, hcell⟩ := hat hl
  have hsp : ad.spot = none := by
    have h0 := hcell 0 hl
    rw [show ad.add 0 = ad from by simp [Addr.add]] at h0
    unfold World.cell? at h0
    cases hs : ad.spot with
    | none => rfl
    | some s => rw [hs] at h0; simp at h0; split at h0 <;> simp at h0
  obtain ⟨b, o, sp⟩ := ad
  simp only at hsp
  subst hsp
  have hcc : ∀ j, j < l.length → w.cell? ⟨b, o + j, none⟩ = some (.int .u8 (l.getD j 0)) := by
    intro j hj
    have := hcell j hj
    rwa [show (⟨b, o, none⟩ : Addr).add j = ⟨b, o + j, none⟩ from by unfold Addr.add; split <;> simp_all] at this
  exact ⟨b, o, rfl, World.block_lt_of_cell? w _ (hcc 0 hl), hm, hcc⟩
theorem bytes_read {l : List Int} {w : World} {b o : Nat} (hm : l.length ≤ 9223372036854775807) (h : ∀ j, j < l.length → w.cell? ⟨b, o + j, none⟩ = some (.int .u8 (l.getD j 0))) :
    Kd.C (Kd.int .u8) w (some ⟨b, o, none⟩) l.length l :=
  Kd.C_of_reads (d := (0 : Int)) (h1 := fun _ => rfl) ⟨rfl, hm, fun _ => ⟨_, rfl, fun j hj => by
    rw [show (⟨b, o, none⟩ : Addr).add j = ⟨b, o + j, none⟩ from by unfold Addr.add; split <;> simp_all]
    exact h j hj⟩⟩
theorem bytes_drop {l : List Int} {w : World} {b o m : Nat} (hm : l.length ≤ 9223372036854775807) (h : ∀ j, j < l.length → w.cell? ⟨b, o + j, none⟩ = some (.int .u8 (l.getD j 0))) :
    Kd.C (Kd.int .u8) w (some ⟨b, o + m, none⟩) (l.drop m).length (l.drop m) := by
  refine bytes_read (by simp; omega) (fun j hj => ?_)
  simp only [List.length_drop] at hj
  have := h (m + j) (by omega)
  rw [show o + (m + j) = o + m + j from by omega] at this
  rw [this]
  simp [List.getD_eq_getElem?_getD]

set_option maxHeartbeats 800000 in
theorem take_cells (g : Nat) (b o : Nat) (n c : Nat) (w : World)
   (hc : w.cell? ⟨g, 0, none⟩ = some (.slice (some ⟨b, o, none⟩) n c)) (hf : w.frozen? ⟨g, 0, none⟩ = false)
   (hn : 4 ≤ n) (hcap : n ≤ c) (hm : n ≤ 9223372036854775807) (ha : ¬ g = b)
   (b0 b1 b2 b3 : Int)
   (h0 : w.cell? ⟨b, o, none⟩ = some (.int .u8 b0)) (h1 : w.cell? ⟨b, o + 1, none⟩ = some (.int .u8 b1))
   (h2 : w.cell? ⟨b, o + 2, none⟩ = some (.int .u8 b2)) (h3 : w.cell? ⟨b, o + 3, none⟩ = some (.int .u8 b3)) :
   Calls Try.prog 10 #[.pointer (some ⟨g, 0, none⟩)] w fun e w' => e = .returned (.int .u32 (be4 b0 b1 b2 b3)) ∧
     ∃ m o', (n ≠ 4 → o' = o + 4) ∧ w' = (w.setCell ⟨g, 0, none⟩ (.slice (some ⟨b, o', none⟩) (n - 4) (n - 4))).drewN m := by
  have i3 : (3 : Int) < (n : Int) := by omega
  have i2 : (2 : Int) < (n : Int) := by omega
  have i1 : (1 : Int) < (n : Int) := by omega
  have i0 : (0 : Int) < (n : Int) := by omega
  go_enter Try.func10, Try.ntmps10
  go_wp2
  · go_quiet (fail)
    go_wp2
    go_ret
    have h4 : n = 4 := by assumption
    subst h4
    exact ⟨rfl, _, o, fun h => absurd rfl h, rfl⟩
  · go_quiet (fail)
    go_wp2
    go_ret
    exact ⟨rfl, _, o + 4, fun _ => rfl, rfl⟩

theorem take_calls (g : Nat) (l : List Int) (w0 w : World) (h : BytesAt w0 w g l) (hn : 4 ≤ l.length) (hB : Below w0.heap.size w0 w) (hg : w0.heap.size ≤ g) :
   Calls Try.prog 10 #[.pointer (some ⟨g, 0, none⟩)] w fun e w' => e = .returned (.int .u32 (num4 l)) ∧ BytesAt w0 w' g (l.drop 4) ∧ Below w0.heap.size w0 w' ∧ w'.heap.size = w.heap.size ∧ (∀ j, j ≠ g → w'.heap[j]? = w.heap[j]?) := by
  obtain ⟨A, c, hb, hc, hC⟩ := h
  obtain ⟨b, o, rfl, hbw, hm, hcc0⟩ := bytes_start (by omega) hC
  have hcc : ∀ j, j < l.length → w.cell? ⟨b, o + j, none⟩ = some (.int .u8 (l.getD j 0)) := fun j hj => by rw [hB.cell (p := ⟨b, o + j, none⟩) hbw]; exact hcc0 j hj
  refine (take_cells g b o l.length c w ((blk_cell hb 0).trans rfl) (blk_frozen hb 0) hn hc hm (by omega) _ _ _ _ (hcc 0 (by omega)) (hcc 1 (by omega)) (hcc 2 (by omega)) (hcc 3 (by omega))).mono ?_
  rintro e w' ⟨rfl, m, o', ho', rfl⟩
  refine ⟨rfl, ⟨some ⟨b, o', none⟩, l.length - 4, ?_, by simp, ?_⟩, ?_, ?_, ?_⟩
  · rw [List.length_drop]
    exact blk_put hb 0 _ rfl
  · by_cases h4 : l.length = 4
    · rw [List.drop_eq_nil_of_le (by omega)]
      exact bytes_read (by simp) (fun j hj => absurd hj (Nat.not_lt_zero _))
    · rw [ho' h4]
      exact bytes_drop hm hcc0
  · exact pw_below_drewN (hB.setCell hg _) m
  · show (w.setCell _ _).heap.size = _
    simp [World.setCell]
  · intro j hj
    exact Below.heap_setCell w _ _ j hj

set_option maxHeartbeats 800000 in
theorem adder_calls (w : World) : Calls Try.prog 11 #[] w fun e w' => e = .returned (.func (.func 16) #[] #[.pointer (some ⟨w.heap.size, 0, none⟩)]) ∧ w' = w.alloc (.cells #[.int .u32 1] 43) := by
  have hmf : ∀ (fn : Fn) (first cap : Array Value) (w : World), (Instr.makeFunc fn first cap).run Try.prog w = .ok (.func fn first cap) w := fun _ _ _ _ => rfl
  go_enter Try.func11, Try.ntmps11
  go_wp2
  go_ret
  exact ⟨rfl, rfl⟩

def sumL : List Int → Int → Int
  | [], s => s
  | c :: r, s => sumL r ((31 * s + c) % 4294967296)

set_option maxRecDepth 100000 in
set_option maxHeartbeats 2000000 in
theorem sum_calls (g : Nat) (A : Option Addr) (c : Nat) (l : List Int) (w : World) (hb : w.heap[g]? = some (.cells #[.int .u32 1] 43 (0, 0))) (hC : Kd.C (Kd.int .u8) w A l.length l) (hne : ∀ ad, A = some ad → ad.block ≠ g) (B : Nat) (a : World) (hB : Below B a w) (hg : B ≤ g) (r : Int) (hr : sumL l 1 = r) :
   Calls Try.prog 16 #[.slice A l.length c, .pointer (some ⟨g, 0, none⟩)] w fun e w' => e = .returned (.int .u32 r) ∧ Below B a w' ∧ w'.heap.size = w.heap.size ∧ (∀ j, j ≠ g → w'.heap[j]? = w.heap[j]?) := by
  have HR := Kd.reads_of_C (d := (0 : Int)) (h1 := fun _ => rfl) hC
  have hm : l.length ≤ 9223372036854775807 := HR.2.1
  have HR0 := Aside0.mk HR
  have HE := Aside0.mk hr
  have HN := Aside0.mk hne
  have HB0 := Aside0.mk hB
  have HB := Aside0.mk hb
  clear HR hC hr hne hB hb
  go_enter Try.func16, Try.ntmps16
  go_wp2_with fail
  go_loopg [8] l.length (fun gk v8 wr => ∃ (i : Nat) (s : Int), v8 = .int .i64 (i : Int) ∧ Aside0 (i + gk = l.length) ∧ Aside0 (sumL (l.drop i) s = r) ∧ Aside0 (wr.heap[g]? = some (.cells #[.int .u32 s] 43 (0, 0))) ∧ Aside0 (Below B a wr) ∧ Aside0 (wr.heap.size = w.heap.size) ∧ Aside0 (∀ j, j ≠ g → wr.heap[j]? = w.heap[j]?))
  case atStart => exact ⟨0, 1, rfl, ⟨by omega⟩, HE, HB, HB0, ⟨rfl⟩, ⟨fun _ _ => rfl⟩⟩
  case round =>
    obtain ⟨i, s, rfl, HL, HE, HB, HB0, HS, HO⟩ := hrel
    have hc0 := (blk_cell HB.out 0)
    have hf0 := blk_frozen HB.out 0
    cases gk with
    | zero =>
      have hd : decide (i < l.length) = false := by have := HL.out; simp; omega
      have H := HE.out
      rw [List.drop_eq_nil_of_le (by have := HL.out; omega)] at H
      simp only [sumL] at H
      subst H
      go_wp2_with fail
      go_ret
      exact ⟨rfl, HB0.out, HS.out, HO.out⟩
    | succ gk =>
      have hd : decide (i < l.length) = true := by have := HL.out; simp; omega
      have hil : i < l.length := by have := HL.out; omega
      have hx1 : (i : Int) < (l.length : Int) := by omega
      obtain ⟨ad, ead, hx⟩ := ReadsOf.at_ HR0.out (i : Int) (by omega) hx1
      cases ead
      have hxb := HO.out ad.block (HN.out ad rfl)
      simp only [Int.toNat_natCast] at hx
      have hx' : wr.cell? (ad.add i) = some (.int .u8 (rdOf 0 l (i : Int))) := by
        rw [← hx]
        exact World.cell?_of_block (w := w) (by rw [add_block]; exact hxb)
      have hxl := Aside0.mk (show l[i] = rdOf 0 l (i : Int) by simp [rdOf, List.getD_eq_getElem?_getD, List.getElem?_eq_getElem hil])
      clear hx hxb
      have H := HE.out
      rw [List.drop_eq_getElem_cons hil, hxl.out] at H
      simp only [sumL] at H
      generalize rdOf 0 l (i : Int) = x at *
      have HE2 := Aside0.mk H
      clear H HE
      go_wp2_with fail
      go_roundg gk
      case measure => omega
      case rel => exact ⟨i + 1, _, by simp, ⟨by have := HL.out; omega⟩, HE2, ⟨blk_put HB.out 0 _ rfl⟩, ⟨HB0.out.setCell hg _⟩, ⟨by rw [← HS.out]; simp [World.setCell]⟩, ⟨fun j hj => (Below.heap_setCell _ _ _ j hj).trans (HO.out j hj)⟩⟩
end Go.Proofs.Ythhjnbhknnnihaa.Im
