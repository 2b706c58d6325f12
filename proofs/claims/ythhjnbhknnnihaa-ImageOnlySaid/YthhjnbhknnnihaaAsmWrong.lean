import Derived.Test.YthhjnbhknnnihaaAsmLabel
set_option linter.unusedVariables false
set_option linter.unusedSimpArgs false
/-! asm.wrong: what is wrong with a line, but for its word. -/
namespace Go.Proofs.Ythhjnbhknnnihaa.Asm
open Go.RowKit Go.Proofs.YthhjnbhknnnihaaW.PrintWords Go.Proofs.YthhjnbhknnnihaaW.PrintLast Go.Proofs.YthhjnbhknnnihaaW.PrintMore Go.Proofs.Ythhjnbhknnnihaa.Base Go.Proofs.Ythhjnbhknnnihaa.PImageOnly

theorem zero3 : ∀ w : World, (zeroValue 3).run Try.prog w = .ok (.int .i64 0) w := fun _ => by kernel_rfl
def wrongF (lab tgt : ByteArray) (k i : Int) (L : List (ByteArray × Int)) : Int :=
  if mayB lab = false then 3 else if mayB tgt = false then 3
  else if (lk L lab).isSome = true ∧ (lk L lab).getD 0 < i then 9
  else if tgt.toList.isEmpty = true then 0
  else if goesB k = false then 1
  else if (lk L tgt).isSome = false then 25
  else 0

set_option maxRecDepth 100000 in
set_option maxHeartbeats 4000000 in
theorem wrong_calls (lab tgt : ByteArray) (k d a b n i : Int) (mb : Nat) (L : List (ByteArray × Int)) (h1 : lab.size ≤ 9223372036854775807) (h2 : tgt.size ≤ 9223372036854775807) (w : World) (hm : StrMap w mb L) :
    Calls Try.prog 17 #[.agg #[.string lab, .int .i64 k, .int .i64 d, .int .i64 a, .int .i64 b, .int .i64 n, .string tgt], .int .i64 i, .map (some mb)] w fun e w' => e = .returned (.int .i64 (wrongF lab tgt k i L)) ∧ Below w.heap.size w w' := by
  have hm' := hm.alloc (.cells #[.string lab, .int .i64 k, .int .i64 d, .int .i64 a, .int .i64 b, .int .i64 n, .string tgt] 39)
  have hl1 := (run_lookup_str (P := Try.prog) (T := 54) (K := 9) (E := 3) Try.underlying54 Try.underlying9 Try.underlying3 zero3 hm' lab).1
  have hl2 := (run_lookup_str (P := Try.prog) (T := 54) (K := 9) (E := 3) Try.underlying54 Try.underlying9 Try.underlying3 zero3 hm' tgt).1
  have hB := Aside0.mk (below_alloc (Below.refl w.heap.size w) (.cells #[.string lab, .int .i64 k, .int .i64 d, .int .i64 a, .int .i64 b, .int .i64 n, .string tgt] 39))
  have hr : ∃ r, Aside0 (wrongF lab tgt k i L = r) := ⟨_, ⟨rfl⟩⟩
  obtain ⟨r, hr⟩ := hr
  rw [hr.out]
  have H := hr.out
  clear hr hm hm'
  simp only [wrongF] at H
  have c1 := Aside0.mk (fun w => may_calls lab h1 w)
  have c2 := Aside0.mk (fun w => may_calls tgt h2 w)
  have c3 := Aside0.mk (fun w => goes_calls k w)
  have s1 := Aside0.mk h1
  clear h1 h2 s1
  obtain ⟨p, hp⟩ : ∃ p, lk L lab = p := ⟨_, rfl⟩
  obtain ⟨q, hq⟩ : ∃ q, lk L tgt = q := ⟨_, rfl⟩
  obtain ⟨m1, hm1⟩ : ∃ m, mayB lab = m := ⟨_, rfl⟩
  obtain ⟨m2, hm2⟩ : ∃ m, mayB tgt = m := ⟨_, rfl⟩
  obtain ⟨g, hg⟩ : ∃ m, goesB k = m := ⟨_, rfl⟩
  rw [hm1, hm2, hp, hq, hg] at H
  rw [hp] at hl1
  rw [hq] at hl2
  rw [hm1] at c1
  rw [hm2] at c2
  rw [hg] at c3
  clear hp hq hm1 hm2 hg
  cases m1 with
  | false =>
    rw [if_pos rfl] at H
    subst H
    go_enter Try.func17, Try.ntmps17
    go_wp2_with fail
    refine (c1.out _).mono ?_
    rintro e w1 ⟨rfl, ⟨m1, rfl⟩⟩
    go_wp2_with fail
    go_ret
    exact ⟨rfl, by with_reducible repeat (first | exact hB.out | refine below_drew ?_ | refine pw_below_drewN ?_ _)⟩
  | true =>
  rw [if_neg (by decide)] at H
  cases m2 with
  | false =>
    rw [if_pos rfl] at H
    subst H
    go_enter Try.func17, Try.ntmps17
    go_wp2_with fail
    refine (c1.out _).mono ?_
    rintro e w1 ⟨rfl, ⟨m1, rfl⟩⟩
    go_wp2_with fail
    refine (c2.out _).mono ?_
    rintro e w1 ⟨rfl, ⟨m2, rfl⟩⟩
    go_wp2_with fail
    go_ret
    exact ⟨rfl, by with_reducible repeat (first | exact hB.out | refine below_drew ?_ | refine pw_below_drewN ?_ _)⟩
  | true =>
  rw [if_neg (by decide)] at H
  by_cases hpi : p.isSome = true ∧ p.getD 0 < i
  · rw [if_pos hpi] at H
    subst H
    obtain ⟨hp1, hp2⟩ := hpi
    have hp2' : decide (p.getD 0 < i) = true := decide_eq_true hp2
    clear hp2
    go_enter Try.func17, Try.ntmps17
    go_wp2_with fail
    refine (c1.out _).mono ?_
    rintro e w1 ⟨rfl, ⟨m1, rfl⟩⟩
    go_wp2_with fail
    refine (c2.out _).mono ?_
    rintro e w1 ⟨rfl, ⟨m2, rfl⟩⟩
    go_wp2_with fail
    go_ret
    exact ⟨rfl, by with_reducible repeat (first | exact hB.out | refine below_drew ?_ | refine pw_below_drewN ?_ _)⟩
  rw [if_neg hpi] at H
  have rest : ∀ pv ps, (ps = false ∨ ps = true ∧ decide (pv < i) = false) → Aside0 (p.getD 0 = pv) → Aside0 (p.isSome = ps) → Calls Try.prog 17 #[.agg #[.string lab, .int .i64 k, .int .i64 d, .int .i64 a, .int .i64 b, .int .i64 n, .string tgt], .int .i64 i, .map (some mb)] w fun e w' => e = .returned (.int .i64 r) ∧ Below w.heap.size w w' := by
    intro pv ps hps h1 h2
    rw [h1.out, h2.out] at hl1
    clear h1 h2 hpi
    by_cases ht : tgt.toList.isEmpty = true
    · rw [if_pos ht] at H
      subst H
      rcases hps with rfl | ⟨rfl, hps⟩
      all_goals
        go_enter Try.func17, Try.ntmps17
        go_wp2_with fail
        refine (c1.out _).mono ?_
        rintro e w1 ⟨rfl, ⟨m1, rfl⟩⟩
        go_wp2_with fail
        refine (c2.out _).mono ?_
        rintro e w1 ⟨rfl, ⟨m2, rfl⟩⟩
        go_wp2_with fail
        go_ret
        exact ⟨rfl, by with_reducible repeat (first | exact hB.out | refine below_drew ?_ | refine pw_below_drewN ?_ _)⟩
    rw [if_neg ht] at H
    have ht' : tgt.toList.isEmpty = false := by cases h : tgt.toList.isEmpty with | true => exact absurd h ht | false => rfl
    clear ht
    cases g with
    | false =>
      rw [if_pos rfl] at H
      subst H
      rcases hps with rfl | ⟨rfl, hps⟩
      all_goals
        go_enter Try.func17, Try.ntmps17
        go_wp2_with fail
        refine (c1.out _).mono ?_
        rintro e w1 ⟨rfl, ⟨m1, rfl⟩⟩
        go_wp2_with fail
        refine (c2.out _).mono ?_
        rintro e w1 ⟨rfl, ⟨m2, rfl⟩⟩
        go_wp2_with fail
        refine (c3.out _).mono ?_
        rintro e w1 ⟨rfl, ⟨m3, rfl⟩⟩
        go_wp2_with fail
        go_ret
        exact ⟨rfl, by with_reducible repeat (first | exact hB.out | refine below_drew ?_ | refine pw_below_drewN ?_ _)⟩
    | true =>
      rw [if_neg (by decide)] at H
      obtain ⟨qs, hqs⟩ : ∃ b, q.isSome = b := ⟨_, rfl⟩
      rw [hqs] at hl2 H
      generalize q.getD 0 = qv at *
      clear hqs
      cases qs with
      | false =>
        rw [if_pos rfl] at H
        subst H
        rcases hps with rfl | ⟨rfl, hps⟩
        all_goals
          go_enter Try.func17, Try.ntmps17
          go_wp2_with fail
          refine (c1.out _).mono ?_
          rintro e w1 ⟨rfl, ⟨m1, rfl⟩⟩
          go_wp2_with fail
          refine (c2.out _).mono ?_
          rintro e w1 ⟨rfl, ⟨m2, rfl⟩⟩
          go_wp2_with fail
          refine (c3.out _).mono ?_
          rintro e w1 ⟨rfl, ⟨m3, rfl⟩⟩
          go_wp2_with fail
          go_ret
          exact ⟨rfl, by with_reducible repeat (first | exact hB.out | refine below_drew ?_ | refine pw_below_drewN ?_ _)⟩
      | true =>
        rw [if_neg (by decide)] at H
        subst H
        rcases hps with rfl | ⟨rfl, hps⟩
        all_goals
          go_enter Try.func17, Try.ntmps17
          go_wp2_with fail
          refine (c1.out _).mono ?_
          rintro e w1 ⟨rfl, ⟨m1, rfl⟩⟩
          go_wp2_with fail
          refine (c2.out _).mono ?_
          rintro e w1 ⟨rfl, ⟨m2, rfl⟩⟩
          go_wp2_with fail
          refine (c3.out _).mono ?_
          rintro e w1 ⟨rfl, ⟨m3, rfl⟩⟩
          go_wp2_with fail
          go_ret
          exact ⟨rfl, by with_reducible repeat (first | exact hB.out | refine below_drew ?_ | refine pw_below_drewN ?_ _)⟩
  cases hps : p.isSome with
  | false => exact rest _ false (.inl rfl) ⟨rfl⟩ ⟨hps⟩
  | true => exact rest _ true (.inr ⟨rfl, decide_eq_false (fun h => hpi ⟨hps, h⟩)⟩) ⟨rfl⟩ ⟨hps⟩
end Go.Proofs.Ythhjnbhknnnihaa.Asm
