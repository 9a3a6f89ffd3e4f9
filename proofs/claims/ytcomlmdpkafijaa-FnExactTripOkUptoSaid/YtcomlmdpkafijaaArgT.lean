/- Contracts of functions of the program (ArgT). -/
import Derived.Test.YtcomlmdpkafijaaArg
import Derived.Test.YtcomlmdpkafijaaC14

namespace Go.Proofs.Ytcomlmdpkafijaa
open Go.Av
set_option maxRecDepth 10000
set_option linter.unusedVariables false

theorem tT : IsT Try.prog 63 (RCat [RSlice false RStr, RStr, RInt .i64]) := isT_struct Try.underlying63 (by kernel_rfl) (by kernel_rfl) ⟨tSs, tS, tI, trivial⟩
def isTrip (d : D) : Prop := ∃ t : Trip, (t.legs.length ≤ lenMax ∧ inI t.seats) ∧ d = t.d
theorem aT : IsA Try.prog 63 isTrip := isA_struct Try.underlying63 tT (fun ds h => by
  obtain ⟨_, _, h1, ⟨_, _, ⟨b, rfl⟩, ⟨_, _, h3, rfl, rfl⟩, rfl⟩, rfl⟩ := h
  obtain ⟨x1, r1, rfl⟩ := strs_of h1
  obtain ⟨x3, r3, rfl⟩ := rInt_of h3
  exact ⟨⟨x1, b, x3⟩, ⟨r1, r3⟩, rfl⟩)
end Go.Proofs.Ytcomlmdpkafijaa
