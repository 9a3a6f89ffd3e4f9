/- For every two lists of bytes that are not longer than a slice may be: the law FnLegTurn (who holds first does not matter, if both can) returns true. No conditions beyond the statement's own. -/
import Derived.Test.YtmehbbepppjikaaGf
import Derived.Test.YtmehbbepppjikaaGn
import Derived.WalkKit
import Derived.ProofKit
import Derived.OpenShut
import Derived.JoinedCond

namespace Go.Proofs.Ytmehbbepppjikaa.fnLegTurn
open Go.Av
set_option maxRecDepth 100000
set_option linter.unusedVariables false

theorem contract (H : Type) (enc : TypeId × Value → H) (W : World) (base : Nat) (args : Array Value) (ds gs : List (DataW H)) (before : List MemPlace)
    (hval : ∀ (j : Nat) t v, Try.f17.params[j]? = some t → args[j]? = some v → Value.okWide Try.prog W .any base t v)
    (hW : DataW.Whole enc Try.prog Try.f17.params.toList Rows.fnLegTurnSpec.vars false W args.toList ds gs before) (hk : Rows.uptoSmall H (ds ++ gs) = true) :
    Calls Try.prog 17 args W fun e W' => ∃ v, e = .returned v ∧ Rows.fnLegTurnSpec.post enc Try.prog Try.f17 false true false false W args v W' := by
  have hfn : Rows.fnLegTurnSpec.fn H (ds ++ gs) = { results := [.lit (.bool true)], args := ds, vars := gs } := by
    obtain ⟨p, q, h1, h2, _⟩ := hW
    obtain ⟨rfl, _⟩ := Go.ChangeShapes.trodVars_none h2
    rw [Try.params17] at h1
    obtain ⟨_, _, _, _, _, _, _, rfl, _, _, h1⟩ := Go.ChangeShapes.trodAll_cons h1
    obtain ⟨_, _, _, _, _, _, _, rfl, _, _, h1⟩ := Go.ChangeShapes.trodAll_cons h1
    obtain ⟨_, rfl, _⟩ := Go.ChangeShapes.trodAll_nil h1
    rfl
  refine law_post (Rs := [isBytes, isBytes]) (bulk_ok H) (bulk_le hk) laidOut (by kernel_rfl) (by kernel_rfl) (by kernel_rfl) Try.underlying4 (by rw [Try.params17]; exact ⟨aB, aB, trivial⟩) hval hW hfn ?_
  intro xs ha
  obtain ⟨d0, d1, ⟨a0, h0, rfl⟩, ⟨a1, h1, rfl⟩, rfl⟩ := args2 ha
  exact fnLegTurn_gives a0 a1 _ h0.1 h1.1

theorem lifted (os : Os) (started : os.Started) (H : Type) (enc : TypeId × Value → H) (F : Stop.Interp) :
    ReturnsInHanded {} Try.checked os 17 .any ((Rows.OpenSpec.upto Rows.fnLegTurnSpec).pre6 enc Try.prog Try.f17 Rows.fnLegTurnUptoRow.domain false) (((Rows.OpenSpec.upto Rows.fnLegTurnSpec).at F).post enc Try.prog Try.f17 false true false false) := by
  refine returnsInHanded_of_cond (C := Try.checked) (s := Rows.OpenSpec.upto Rows.fnLegTurnSpec) (k := Rows.uptoSmall) rfl own started (by kernel_rfl) Try.func17
    (OpenSpec.witness (enc := enc) (C := Try.checked) (s := Rows.OpenSpec.upto Rows.fnLegTurnSpec) (k := Rows.uptoSmall) rfl false ⟨#[], #[.slice none 0 0, .slice none 0 0], []⟩ 8 (by kernel_rfl) (by kernel_rfl) (by kernel_rfl)
      (x := ([.nil, .nil], [], [])) (by kernel_rfl) rfl (by kernel_rfl)) ?_
  intro W base args ds gs before hval hW _ hk _
  exact contract H enc W base args ds gs before hval hW hk

theorem closed : joinedFacts Try.prog 17 Try.f17 (Rows.OpenSpec.upto Rows.fnLegTurnSpec).bare Rows.fnLegTurnUptoRow = true := by
  simp only [joinedFacts, Bool.and_eq_true, entM, entL, entK]
  repeat' apply And.intro
  all_goals first | exact True.intro | kernel_rfl
theorem proved : Rows.FnLegTurnUptoSaid :=
  OpenClaim.holds_of_cond 17 Try.f17 rfl rfl rfl rfl rfl rfl rfl ⟨rfl, rfl, rfl, rfl, rfl⟩ rfl rfl rfl rfl rfl (by kernel_rfl) Try.func17 closed
    (of_decide_eq_true (by kernel_rfl)) (by unfold Func.isWrapper; first | (rw [if_pos (by decide +kernel)]; kernel_rfl) | (rw [if_neg (by decide +kernel)]; exact ⟨rfl, rfl⟩))
    (fun os started H enc _ F => lifted os started H enc F)
end Go.Proofs.Ytmehbbepppjikaa.fnLegTurn
