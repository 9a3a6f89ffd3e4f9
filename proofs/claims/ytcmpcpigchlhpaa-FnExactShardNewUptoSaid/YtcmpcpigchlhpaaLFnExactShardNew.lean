/- For every number and every list of legs, as far as the statement's own bound goes: the law FnExactShardNew (the program's ShardNew equals the reference's, leaves its arguments and shares no memory) returns true. No conditions beyond the statement's own. -/
import Derived.Test.YtcmpcpigchlhpaaGf
import Derived.Test.YtcmpcpigchlhpaaHo
import Derived.WalkKit
import Derived.ProofKit
import Derived.OpenShut
import Derived.JoinedCond

namespace Go.Proofs.Ytcmpcpigchlhpaa.fnExactShardNew
open Go.Av
set_option maxRecDepth 100000
set_option linter.unusedVariables false

theorem contract (H : Type) (enc : TypeId × Value → H) (W : World) (base : Nat) (args : Array Value) (ds gs : List (DataW H)) (before : List MemPlace)
    (hval : ∀ (j : Nat) t v, Try.f4.params[j]? = some t → args[j]? = some v → Value.okWide Try.prog W .any base t v)
    (hW : DataW.Whole enc Try.prog Try.f4.params.toList Rows.fnExactShardNewSpec.vars false W args.toList ds gs before) (hk : Rows.uptoSmall H (ds ++ gs) = true) :
    Calls Try.prog 4 args W fun e W' => ∃ v, e = .returned v ∧ Rows.fnExactShardNewSpec.post enc Try.prog Try.f4 false true false false W args v W' := by
  have hfn : Rows.fnExactShardNewSpec.fn H (ds ++ gs) = { results := [.lit (.bool true)], args := ds, vars := gs } := by
    obtain ⟨p, q, h1, h2, _⟩ := hW
    obtain ⟨rfl, _⟩ := Go.ChangeShapes.trodVars_none h2
    rw [Try.params4] at h1
    obtain ⟨_, _, _, _, _, _, _, rfl, _, _, h1⟩ := Go.ChangeShapes.trodAll_cons h1
    obtain ⟨_, _, _, _, _, _, _, rfl, _, _, h1⟩ := Go.ChangeShapes.trodAll_cons h1
    obtain ⟨_, rfl, _⟩ := Go.ChangeShapes.trodAll_nil h1
    rfl
  refine law_post (Rs := [isInt, isLegs]) (bulk_ok H) (bulk_le hk) laidOut (by kernel_rfl) (by kernel_rfl) (by kernel_rfl) Try.underlying4 (by rw [Try.params4]; exact ⟨aI, aLs, trivial⟩) hval hW hfn ?_
  intro S hS xs ha
  obtain ⟨d0, d1, ⟨a0, h0, rfl⟩, ⟨a1, h1, rfl⟩, rfl⟩ := args2 ha
  exact fnExactShardNew_gives a0 a1 _

theorem lifted (os : Os) (started : os.Started) (H : Type) (enc : TypeId × Value → H) (F : Stop.Interp) :
    ReturnsInHanded {} Try.checked os 4 .any ((Rows.OpenSpec.upto Rows.fnExactShardNewSpec).pre6 enc Try.prog Try.f4 Rows.fnExactShardNewUptoRow.domain false) (((Rows.OpenSpec.upto Rows.fnExactShardNewSpec).at F).post enc Try.prog Try.f4 false true false false) := by
  refine returnsInHanded_of_cond (C := Try.checked) (s := Rows.OpenSpec.upto Rows.fnExactShardNewSpec) (k := Rows.uptoSmall) rfl own started (by kernel_rfl) Try.func4
    (OpenSpec.witness (enc := enc) (C := Try.checked) (s := Rows.OpenSpec.upto Rows.fnExactShardNewSpec) (k := Rows.uptoSmall) rfl false ⟨#[], #[.int .i64 0, .slice none 0 0], []⟩ 8 (by kernel_rfl) (by kernel_rfl) (by kernel_rfl)
      (x := ([.lit (.int .i64 0), .nil], [], [])) (by kernel_rfl) rfl (by kernel_rfl)) ?_
  intro W base args ds gs before hval hW _ hk _
  exact contract H enc W base args ds gs before hval hW hk

theorem closed : joinedFacts Try.prog 4 Try.f4 (Rows.OpenSpec.upto Rows.fnExactShardNewSpec).bare Rows.fnExactShardNewUptoRow = true := by
  simp only [joinedFacts, Bool.and_eq_true, entM, entL, entK]
  repeat' apply And.intro
  all_goals first | exact True.intro | kernel_rfl
theorem proved : Rows.FnExactShardNewUptoSaid :=
  OpenClaim.holds_of_cond 4 Try.f4 rfl rfl rfl rfl rfl rfl rfl ⟨rfl, rfl, rfl, rfl, rfl⟩ rfl rfl rfl rfl rfl (by kernel_rfl) Try.func4 closed
    (of_decide_eq_true (by kernel_rfl)) (by unfold Func.isWrapper; first | (rw [if_pos (by decide +kernel)]; kernel_rfl) | (rw [if_neg (by decide +kernel)]; exact ⟨rfl, rfl⟩))
    (fun os started H enc _ F => lifted os started H enc F)
end Go.Proofs.Ytcmpcpigchlhpaa.fnExactShardNew
