/- PROVED: camletlaw44.ImageOnly answers true for every slice of bytes: what image.Take accepts, image.Put puts just as it was. No conditions beyond the printed row's sizes. -/
import Derived.Test.YthhjnbhknnnihaaQImageOnlyx1
import Derived.Test.YthhjnbhknnnihaaImPlain
namespace Go.Proofs.Ythhjnbhknnnihaa.Pure
open Go.RowKit Go.Proofs.Ythhjnbhknnnihaa.PImageOnly Go.Proofs.YthhjnbhknnnihaaW.PrintWords Go.Proofs.YthhjnbhknnnihaaW.PrintLast Go.Proofs.Ythhjnbhknnnihaa.Im

theorem ImageOnly : camletlaw44_ImageOnly.Pure := by
  intro l hm hs hw
  have hB : isB l := fun x hx => by
    have h := hw x hx
    simp [Lit.wf] at h
    have h1 : IntKind.u8.min = 0 := by decide
    have h2 : IntKind.u8.max = 255 := by decide
    rw [h1, h2] at h
    constructor <;> omega
  unfold camletlaw44_ImageOnly.f
  have hk : camletlaw44_knows.f = some true := rfl
  rw [hk]
  simp only [Option.bind_some]
  split
  · rfl
  · simp only [image_Take.f, Option.bind_some, image_Put.f]
    obtain ⟨c, e, s, ht⟩ : ∃ c e s, takeF l = (c, e, s) := ⟨_, _, _, rfl⟩
    rw [ht]
    simp only
    by_cases hz : s = 0
    · subst hz
      rw [if_pos rfl, take_put l hB c e ht]
      simp
    · rw [if_neg hz, if_pos (by
        have := take_none l (by rw [ht]; exact hz)
        rw [ht] at this
        simp only at this
        rw [this]
        rfl)]

end Go.Proofs.Ythhjnbhknnnihaa.Pure
