import Derived.Test.YthhjnbhknnnihaaImTakeAll
set_option linter.unusedVariables false
set_option linter.unusedSimpArgs false
/-! image.put onto a literal: bytes laid behind a row that is full, or behind the call's own row. -/
namespace Go.Proofs.Ythhjnbhknnnihaa.Im
open Go.RowKit Go.Proofs.YthhjnbhknnnihaaW.PrintWords Go.Proofs.YthhjnbhknnnihaaW.PrintLast Go.Proofs.YthhjnbhknnnihaaW.PrintMore Go.Proofs.Ythhjnbhknnnihaa.Base Go.Proofs.Ythhjnbhknnnihaa.PImageOnly

def four (n : Int) : List Int := [n / 16777216 % 256, n / 65536 % 256, n / 256 % 256, n % 256]
def fours : List Int → List Int
  | [] => []
  | n :: r => four n ++ fours r
theorem fours_len : ∀ l, (fours l).length = 4 * l.length
  | [] => rfl
  | n :: r => by simp [fours, four, fours_len r]; omega
theorem reads_move {k : IntKind} {w w' : World} {A : Option Addr} {n : Nat} {xs : List Int} (h : Kd.C (Kd.int k) w A n xs) (hm : ∀ i, i < w.heap.size → w'.heap[i]? = w.heap[i]?) : Kd.C (Kd.int k) w' A n xs := by
  obtain ⟨h1, h2, h3⟩ := Kd.reads_of_C (d := (0 : Int)) (h1 := fun _ => rfl) h
  refine Kd.C_of_reads (d := (0 : Int)) (h1 := fun _ => rfl) ⟨h1, h2, fun hn => ?_⟩
  obtain ⟨ad, e, hc⟩ := h3 hn
  refine ⟨ad, e, fun j hj => ?_⟩
  have hcj := hc j hj
  rw [World.cell?_of_block (w := w) (hm _ (World.block_lt_of_cell? w _ hcj))]
  exact hcj


/-- A row that one may append onto: the call's own, or one that has no room (whatever of it is frozen). -/
def AppOK (base : Nat) (W : World) (v : Value) (xs : List Int) : Prop :=
  W.ownsRow base 5 1 v xs.length (nums .u8 xs) ∨
  ∃ g, v = .slice (some ⟨g, 0, none⟩) xs.length xs.length ∧ g < W.heap.size ∧ base ≤ g ∧ (∀ j u, (nums .u8 xs)[j]? = some u → W.cell? ((⟨g, 0, none⟩ : Addr).add j) = some u)

section
variable {P : Program} {ops : Array Oper} {rest : List Oper} {o : Oper} {a : Act} {Q : Exit → Act → World → Prop}
theorem app_four {w0 W : World} (base : Nat) (hgd : o.guard = none) (s x : Operand) (t : TypeId)
    (ho : o.op = .call { callee := .builtin .append, args := #[s, x], argTypes := #[t, t] })
    (ht : P.underlying t = some (.slice 5)) (hinfo : (P.info? 5).map (fun i => (i.zero, i.size, i.bytes)) = some (some (.int .u8 0), 1, 1))
    (v : Value) (xs : List Int) (y0 y1 y2 y3 : Int) (hs : a.eval s = v) (hx : a.eval x = .slice (some ⟨W.heap.size, 0, none⟩) 4 4)
    (HO : AppOK base W v xs) (HB : Below base w0 W) (hbase : base ≤ W.heap.size) (hl : xs.length + 4 ≤ 140737488355328)
    (h : ∀ v1 w1, w1.ownsRow base 5 1 v1 (xs ++ [y0, y1, y2, y3]).length (nums .u8 (xs ++ [y0, y1, y2, y3])) → Below base w0 w1 → W.grownBy w1 v.ownBlock → (v1.ownBlock = v.ownBlock ∨ ∃ b, v1.ownBlock = some b ∧ W.heap.size ≤ b) → wpList P ops Q rest (a.put o.dst v1) w1) :
    wpList P ops Q (o :: rest) a (W.alloc (.cells #[.int .u8 y0, .int .u8 y1, .int .u8 y2, .int .u8 y3] 5)) := by
  obtain ⟨i0, hi, hzz⟩ := Option.map_eq_some_iff.1 hinfo
  simp only [Prod.mk.injEq] at hzz
  obtain ⟨hz0, hz1, hz2⟩ := hzz
  have hnl : (nums .u8 xs).length = xs.length := nums_length _ _
  have hnews : ∀ j u, ([.int .u8 y0, .int .u8 y1, .int .u8 y2, .int .u8 y3] : List Value)[j]? = some u → (W.alloc (.cells #[.int .u8 y0, .int .u8 y1, .int .u8 y2, .int .u8 y3] 5)).cell? ((⟨W.heap.size, 0, none⟩ : Addr).add j) = some u :=
    World.news_of_block (cs := #[.int .u8 y0, .int .u8 y1, .int .u8 y2, .int .u8 y3]) (t := 5) (fr := (0, 0)) (heap_alloc_new W _)
  have hap : nums .u8 xs ++ ([.int .u8 y0, .int .u8 y1, .int .u8 y2, .int .u8 y3] : List Value) = nums .u8 (xs ++ [y0, y1, y2, y3]) := by simp [nums]
  rcases HO with HO | ⟨g, rfl, hg, hbg, hcells⟩
  · refine wpList_append_own_at (W.alloc (.cells #[.int .u8 y0, .int .u8 y1, .int .u8 y2, .int .u8 y3] 5)) hgd s x t ho base 5 i0 _ 1 1 ht hi hz0 hz1 hz2 rfl (by omega) v xs.length (nums .u8 xs) hs (HO.alloc _) ⟨W.heap.size, 0, none⟩ 4 4 [.int .u8 y0, .int .u8 y1, .int .u8 y2, .int .u8 y3] hx rfl
      hnews (by simp [Value.oneCell']) (by simp only [maxLen]; omega) (by omega) (by simp; omega) ?_
    intro v1 w1 hown hg _ hat
    rw [hap] at hown
    refine h v1 w1 (by simpa using hown) ((HB.alloc hbase _).grown hg (by simp; omega) (own_base HO)) (World.grownBy.trans (World.grownBy_alloc W _ _) hg) ?_
    rcases hat with hat | hat
    · exact .inl hat
    · exact .inr ⟨_, hat, by simp⟩
  · have hcap := grownCap_ge (W.alloc (.cells #[.int .u8 y0, .int .u8 y1, .int .u8 y2, .int .u8 y3] 5)) (xs.length + 4) xs.length 5
    have hr := run_append_grow (P := P) (W.alloc (.cells #[.int .u8 y0, .int .u8 y1, .int .u8 y2, .int .u8 y3] 5)) t o.type 5 i0 (.int .u8 0) ht hi hz0 ⟨g, 0, none⟩ xs.length xs.length (nums .u8 xs) (by rw [hnl, hz1]; omega)
      (fun j u hu => by
        have := hcells j u hu
        rw [World.cell?_of_block (w := W) (heap_alloc_old W _ (by rw [show ((⟨g, 0, none⟩ : Addr).add j).block = g from by unfold Addr.add; split <;> rfl]; exact hg))]
        exact this) ⟨W.heap.size, 0, none⟩ 4 4 [.int .u8 y0, .int .u8 y1, .int .u8 y2, .int .u8 y3] (by rw [hz1]; rfl) hnews (by omega) (by omega) (growslice_fits (by omega) (by rw [hz2]; omega))
    refine wpList_plain hgd fun K hK => ?_
    unfold Oper.wp execOp
    simp only [ho, resolve, invoke, builtin, Sem.run_bind, Sem.run_pure, Result.andThen_ok, List.map_toArray, List.map_cons, List.map_nil, hs, hx, hr]
    refine hK _ _ (h _ _ ⟨by simp [nums], .inr ⟨_, _, _, by simp only [List.length_append, List.length_cons, List.length_nil]; rfl, by simp; omega, heap_alloc_new _ _, by simpa using hcap, grownCap_le_maxLen _ _ _ _ (by simp only [maxLen]; omega), ?_, ?_⟩⟩ ?_ ?_ (.inr ⟨_, rfl, by simp [World.drew]⟩))
    · simp only [Array.size_append, List.size_toArray, size_zeroCells, hnl, List.length_cons, List.length_nil, List.length_append]
      have hz1 : (Value.int IntKind.u8 0).cells.size = 1 := rfl
      rw [hz1]
      omega
    · simp only [Array.toList_append, List.append_assoc]
      rw [← List.append_assoc, show (nums .u8 xs).toArray.toList ++ [Value.int .u8 y0, .int .u8 y1, .int .u8 y2, .int .u8 y3].toArray.toList = nums .u8 (xs ++ [y0, y1, y2, y3]) from hap]
      rw [show (xs ++ [y0, y1, y2, y3]).length * 1 = (nums .u8 (xs ++ [y0, y1, y2, y3])).length from by simp [nums]]
      exact List.take_left
    · exact (HB.alloc hbase _).drew.alloc (by simp [World.drew]; omega) _
    · exact World.grownBy.trans (World.grownBy_alloc W _ _) (World.grownBy.trans (b := (W.alloc (.cells #[.int .u8 y0, .int .u8 y1, .int .u8 y2, .int .u8 y3] 5)).drew) ⟨rfl, rfl, rfl, Nat.le_refl _, fun _ _ _ => rfl⟩ (World.grownBy_alloc _ _ _))
end

set_option maxHeartbeats 4000000 in
set_option maxRecDepth 100000 in
/-- put onto a full row (a literal) that nothing else reads. -/
theorem put_full (g : Nat) (xs : List Int) (A : Option Addr) (c : Nat) (l : List Int) (B : Nat) (a w : World) (hx : AppOK B w (.slice (some ⟨g, 0, none⟩) xs.length xs.length) xs) (hgB : B ≤ g) (hg : g < w.heap.size)
   (hC : ∀ W_, Kept w W_ (fun k => k = g) → Kd.C (Kd.int .u32) W_ A l.length l) (hc : l.length ≤ c) (hB : Below B a w) (hs : xs.length + 4 * l.length < 140737488355328) :
   Calls Try.prog 12 #[.slice (some ⟨g, 0, none⟩) xs.length xs.length, .slice A l.length c] w fun e w' => ∃ v, e = .returned v ∧ AppOK B w' v (xs ++ fours l) ∧ Below B a w' ∧ Kept w w' (fun k => k = g) ∧ (∀ k, v.ownBlock = some k → k = g ∨ w.heap.size ≤ k) ∧ (l ≠ [] → w'.ownsRow B 5 1 v (xs ++ fours l).length (nums .u8 (xs ++ fours l))) := by
  have HX := Aside0.mk hx
  have HC := Aside0.mk hC
  have Hc := Aside0.mk hc
  have HB := Aside0.mk hB
  have HS := Aside0.mk hs
  have hll := (Kd.reads_of_C (d := (0 : Int)) (h1 := fun _ => rfl) (hC w (Kept.refl w _))).2.1
  clear hx hC hc hB hs
  go_enter Try.func12, Try.ntmps12
  go_wp2_with fail
  go_loopg [0, 9] l.length (fun gk v0 v9 wr => ∃ (i : Nat) (acc : List Int), v9 = .int .i64 (i : Int) ∧ Aside0 (i + gk = l.length) ∧ Aside0 (acc ++ fours (l.drop i) = xs ++ fours l) ∧ Aside0 (AppOK B wr v0 acc) ∧ Aside0 (Below B a wr) ∧ Aside0 (Kept w wr (fun k => k = g)) ∧ Aside0 (∀ k, v0.ownBlock = some k → k = g ∨ w.heap.size ≤ k) ∧ Aside0 (i ≠ 0 → wr.ownsRow B 5 1 v0 acc.length (nums .u8 acc)) ∧ Aside0 (∃ A n c, v0 = .slice A n c))
  case atStart => exact ⟨0, xs, rfl, ⟨by omega⟩, ⟨by simp⟩, ⟨HX.out⟩, ⟨HB.out⟩, ⟨Kept.refl w _⟩, ⟨fun k hk => .inl (by simpa [Value.ownBlock] using hk.symm)⟩, ⟨fun h => absurd rfl h⟩, ⟨_, _, _, rfl⟩⟩
  case round =>
    clear HX HB
    obtain ⟨i, acc, rfl, HI, HE, HX, HB, HK, HO, HW, HF⟩ := hrel
    have hi : i ≤ l.length := by have := HI.out; omega
    have hlen : acc.length + 4 * (l.length - i) = xs.length + 4 * l.length := by
      have := congrArg List.length HE.out
      simpa [fours_len, List.length_drop] using this
    have hacc : acc.length + 4 ≤ 140737488355328 ∨ i = l.length := by have := HS.out; omega
    clear hlen
    cases gk with
    | zero =>
      have hd : decide (i < l.length) = false := by have := HI.out; simp; omega
      have hil : i = l.length := by have := HI.out; omega
      have HE2 := HE.out
      rw [List.drop_eq_nil_of_le (by omega)] at HE2
      simp only [fours, List.append_nil] at HE2
      have HE := Aside0.mk HE2
      have Hil := Aside0.mk hil
      clear HE2 hil hacc hi
      obtain ⟨A0, n0, c0, rfl⟩ := HF.out
      go_wp2_with fail
      go_ret
      refine ⟨_, rfl, ?_, HB.out, HK.out, HO.out, fun hne => ?_⟩
      · rw [← HE.out]; exact HX.out
      · rw [← HE.out]
        exact HW.out (fun h0 => hne (List.eq_nil_of_length_eq_zero (by have := Hil.out; omega)))
    | succ gk =>
      have hd : decide (i < l.length) = true := by have := HI.out; simp; omega
      have hil : i < l.length := by have := HI.out; omega
      have hx1 : (i : Int) < (l.length : Int) := by omega
      obtain ⟨ad, ead, hx⟩ := ReadsOf.at_ (Kd.reads_of_C (d := (0 : Int)) (h1 := fun _ => rfl) (HC.out wr HK.out)) (i : Int) (by omega) hx1
      cases ead
      simp only [Int.toNat_natCast] at hx
      have hxl : l[i] = rdOf 0 l (i : Int) := by simp [rdOf, List.getD_eq_getElem?_getD, List.getElem?_eq_getElem hil]
      have H := HE.out
      rw [List.drop_eq_getElem_cons hil, hxl] at H
      simp only [fours, ← List.append_assoc] at H
      have Ha := Aside0.mk (show acc.length + 4 ≤ 140737488355328 by omega)
      clear hxl hacc hi
      generalize rdOf 0 l (i : Int) = x at *
      have HE2 := Aside0.mk H
      clear H HE
      have HF2 := HF.out
      obtain ⟨A0, n0, c0, rfl⟩ := HF2
      have hBw := Aside0.mk (Nat.lt_of_lt_of_le hg HK.out.1)
      have hgB' := Aside0.mk hgB
      clear HF hg hgB
      go_wp2_with (at_builtin; refine app_four (w0 := a) B rfl (.tmp 13) (.tmp 25) 22 (by rfl) Try.underlying22 (by rfl) _ acc _ _ _ _ (by rfl) (by rfl) HX.out HB.out (by have := hBw.out; have := hgB'.out; omega) Ha.out ?_)
      intro v1 w1 hown hb hgr hat
      have Hown := Aside0.mk (show w1.ownsRow B 5 1 v1 (acc ++ four x).length (nums .u8 (acc ++ four x)) by simpa [four] using hown)
      have Hb := Aside0.mk hb
      have HK2 := Aside0.mk (show Kept w w1 (fun k => k = g) from ⟨Nat.le_trans HK.out.1 hgr.size, fun j hj hn => by
        have h1 := HK.out.2 j hj hn
        have hjr : j < wr.heap.size := Nat.lt_of_lt_of_le hj HK.out.1
        rw [hgr.block j hjr (fun e => ?_)]
        · exact h1
        · rcases HO.out j e.symm with h | h
          · exact hn h
          · omega⟩)
      have HO2 := Aside0.mk (show ∀ k, v1.ownBlock = some k → k = g ∨ w.heap.size ≤ k from fun k hk => by
        rcases hat with hat | ⟨b, hb1, hb2⟩
        · exact HO.out k (hat ▸ hk)
        · rw [hb1] at hk
          cases hk
          exact .inr (Nat.le_trans HK.out.1 hb2))
      have HF2 := own_slice hown
      obtain ⟨A1, c1, rfl⟩ := HF2
      clear hown hb hgr hat HX HW HO HB HK
      go_wp2_with fail
      go_roundg gk
      case measure => omega
      case rel => exact ⟨i + 1, acc ++ four x, by simp, ⟨by have := HI.out; omega⟩, HE2, ⟨.inl Hown.out⟩, Hb, HK2, HO2, ⟨fun _ => Hown.out⟩, ⟨_, _, _, rfl⟩⟩
end Go.Proofs.Ythhjnbhknnnihaa.Im
