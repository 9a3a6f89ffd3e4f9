/- The program's TripOk returns what the reference's returns, of all legs and every trip that hold at most 1048576 values and letters together. -/
import Derived.Test.YtcomlmdpkafijaaArgT
import Derived.Test.YtcomlmdpkafijaaC15
import Derived.WalkKit
import Derived.ProofKit
import Derived.OpenShut
import Derived.JoinedCond

namespace Go.Proofs.Ytcomlmdpkafijaa.fnExactTripOk
open Go.Av
set_option maxRecDepth 100000
set_option linter.unusedVariables false

theorem contract (H : Type) (enc : TypeId × Value → H) (W : World) (base : Nat) (args : Array Value) (ds gs : List (DataW H)) (before : List MemPlace)
    (hval : ∀ (j : Nat) t v, Try.f14.params[j]? = some t → args[j]? = some v → Value.okWide Try.prog W .any base t v)
    (hW : DataW.Whole enc Try.prog Try.f14.params.toList Rows.fnExactTripOkSpec.vars false W args.toList ds gs before) (hk : Rows.uptoSmall H (ds ++ gs) = true) :
    Calls Try.prog 14 args W fun e W' => ∃ v, e = .returned v ∧ Rows.fnExactTripOkSpec.post enc Try.prog Try.f14 false true false false W args v W' := by
  have hfn : Rows.fnExactTripOkSpec.fn H (ds ++ gs) = { results := [.lit (.bool true)], args := ds, vars := gs } := by
    obtain ⟨p, q, h1, h2, _⟩ := hW
    obtain ⟨rfl, _⟩ := Go.ChangeShapes.trodVars_none h2
    rw [Try.params14] at h1
    obtain ⟨_, _, _, _, _, _, _, rfl, _, _, h1⟩ := Go.ChangeShapes.trodAll_cons h1
    obtain ⟨_, _, _, _, _, _, _, rfl, _, _, h1⟩ := Go.ChangeShapes.trodAll_cons h1
    obtain ⟨_, rfl, _⟩ := Go.ChangeShapes.trodAll_nil h1
    rfl
  refine law_post (Rs := [isLegs, isTrip]) (bulk_ok H) (bulk_le hk) laidOut (by kernel_rfl) (by kernel_rfl) (by kernel_rfl) Try.underlying4 (by rw [Try.params14]; exact ⟨aLs, aT, trivial⟩) hval hW hfn ?_
  intro xs ha
  obtain ⟨d0, d1, ⟨a0, h0, rfl⟩, ⟨a1, h1, rfl⟩, rfl⟩ := args2 ha
  exact fnExactTripOk_gives a0 a1 []

theorem lifted (os : Os) (started : os.Started) (H : Type) (enc : TypeId × Value → H) (F : Stop.Interp) :
    ReturnsInHanded {} Try.checked os 14 .any ((Rows.OpenSpec.upto Rows.fnExactTripOkSpec).pre6 enc Try.prog Try.f14 Rows.fnExactTripOkUptoRow.domain false) (((Rows.OpenSpec.upto Rows.fnExactTripOkSpec).at F).post enc Try.prog Try.f14 false true false false) := by
  refine returnsInHanded_of_cond (C := Try.checked) (s := Rows.OpenSpec.upto Rows.fnExactTripOkSpec) (k := Rows.uptoSmall) rfl own started (by kernel_rfl) Try.func14
    (OpenSpec.witness (enc := enc) (C := Try.checked) (s := Rows.OpenSpec.upto Rows.fnExactTripOkSpec) (k := Rows.uptoSmall) rfl false ⟨#[], #[.slice none 0 0, .agg #[.slice none 0 0, .string .empty, .int .i64 0]], []⟩ 8 (by kernel_rfl) (by kernel_rfl) (by kernel_rfl)
      (x := ([.nil, .agg [.nil, .lit (.string []), .lit (.int .i64 0)]], [], [])) (by kernel_rfl) rfl (by kernel_rfl)) ?_
  intro W base args ds gs before hval hW _ hk _
  exact contract H enc W base args ds gs before hval hW hk

theorem proved : Rows.FnExactTripOkUptoSaid :=
  OpenClaim.holds_of_cond 14 Try.f14 rfl rfl rfl rfl rfl rfl rfl ⟨rfl, rfl, rfl, rfl, rfl⟩ rfl rfl rfl rfl rfl (by kernel_rfl) Try.func14 (by kernel_rfl)
    (of_decide_eq_true (by kernel_rfl)) (by unfold Func.isWrapper; first | (rw [if_pos (by decide +kernel)]; kernel_rfl) | (rw [if_neg (by decide +kernel)]; exact ⟨rfl, rfl⟩))
    (fun os started H enc _ F => lifted os started H enc F)
end Go.Proofs.Ytcomlmdpkafijaa.fnExactTripOk
