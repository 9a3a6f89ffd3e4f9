/- For every list of bytes that is not longer than a slice may be: the law FnTripOk (a trip can be made just if each leg goes on where and when the one ahead of it ended, and so can each beginning of it) returns true. No conditions beyond the statement's own. -/
import Derived.Test.YtcmpcpigchlhpaaGf
import Derived.Test.YtcmpcpigchlhpaaKh
import Derived.WalkKit
import Derived.ProofKit
import Derived.OpenShut
import Derived.JoinedCond

namespace Go.Proofs.Ytcmpcpigchlhpaa.fnTripOk
open Go.Av
set_option maxRecDepth 100000
set_option linter.unusedVariables false

theorem contract (H : Type) (enc : TypeId × Value → H) (W : World) (base : Nat) (args : Array Value) (ds gs : List (DataW H)) (before : List MemPlace)
    (hval : ∀ (j : Nat) t v, Try.f3.params[j]? = some t → args[j]? = some v → Value.okWide Try.prog W .any base t v)
    (hW : DataW.Whole enc Try.prog Try.f3.params.toList Rows.fnTripOkSpec.vars false W args.toList ds gs before) (hk : Rows.uptoSmall H (ds ++ gs) = true) :
    Calls Try.prog 3 args W fun e W' => ∃ v, e = .returned v ∧ Rows.fnTripOkSpec.post enc Try.prog Try.f3 false true false false W args v W' := by
  have hfn : Rows.fnTripOkSpec.fn H (ds ++ gs) = { results := [.lit (.bool true)], args := ds, vars := gs } := by
    obtain ⟨p, q, h1, h2, _⟩ := hW
    obtain ⟨rfl, _⟩ := Go.ChangeShapes.trodVars_none h2
    rw [Try.params3] at h1
    obtain ⟨_, _, _, _, _, _, _, rfl, _, _, h1⟩ := Go.ChangeShapes.trodAll_cons h1
    obtain ⟨_, rfl, _⟩ := Go.ChangeShapes.trodAll_nil h1
    rfl
  refine law_post (Rs := [isBytes]) (bulk_ok H) (bulk_le hk) laidOut (by kernel_rfl) (by kernel_rfl) (by kernel_rfl) Try.underlying4 (by rw [Try.params3]; exact ⟨aB, trivial⟩) hval hW hfn ?_
  intro S hS xs ha
  obtain ⟨d0, ⟨a0, h0, rfl⟩, rfl⟩ := args1 ha
  exact fnTripOk_gives a0 _ h0.1

theorem lifted (os : Os) (started : os.Started) (H : Type) (enc : TypeId × Value → H) (F : Stop.Interp) :
    ReturnsInHanded {} Try.checked os 3 .any ((Rows.OpenSpec.upto Rows.fnTripOkSpec).pre6 enc Try.prog Try.f3 Rows.fnTripOkUptoRow.domain false) (((Rows.OpenSpec.upto Rows.fnTripOkSpec).at F).post enc Try.prog Try.f3 false true false false) := by
  refine returnsInHanded_of_cond (C := Try.checked) (s := Rows.OpenSpec.upto Rows.fnTripOkSpec) (k := Rows.uptoSmall) rfl own started (by kernel_rfl) Try.func3
    (OpenSpec.witness (enc := enc) (C := Try.checked) (s := Rows.OpenSpec.upto Rows.fnTripOkSpec) (k := Rows.uptoSmall) rfl false ⟨#[], #[.slice none 0 0], []⟩ 8 (by kernel_rfl) (by kernel_rfl) (by kernel_rfl)
      (x := ([.nil], [], [])) (by kernel_rfl) rfl (by kernel_rfl)) ?_
  intro W base args ds gs before hval hW _ hk _
  exact contract H enc W base args ds gs before hval hW hk

theorem closed : joinedFacts Try.prog 3 Try.f3 (Rows.OpenSpec.upto Rows.fnTripOkSpec).bare Rows.fnTripOkUptoRow = true := by
  simp only [joinedFacts, Bool.and_eq_true, entM, entL, entK]
  repeat' apply And.intro
  all_goals first | exact True.intro | kernel_rfl
theorem proved : Rows.FnTripOkUptoSaid :=
  OpenClaim.holds_of_cond 3 Try.f3 rfl rfl rfl rfl rfl rfl rfl ⟨rfl, rfl, rfl, rfl, rfl⟩ rfl rfl rfl rfl rfl (by kernel_rfl) Try.func3 closed
    (of_decide_eq_true (by kernel_rfl)) (by unfold Func.isWrapper; first | (rw [if_pos (by decide +kernel)]; kernel_rfl) | (rw [if_neg (by decide +kernel)]; exact ⟨rfl, rfl⟩))
    (fun os started H enc _ F => lifted os started H enc F)
end Go.Proofs.Ytcmpcpigchlhpaa.fnTripOk
