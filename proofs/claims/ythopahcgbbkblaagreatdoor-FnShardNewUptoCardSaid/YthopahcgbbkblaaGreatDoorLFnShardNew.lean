/- For all bytes, as far as the statement's own bound goes: the law FnShardNew (of a drawn number and drawn legs the program's ShardNew gives what the reference gives; such a shard is ok and has just the legs that it was given, an empty log, and asks nothing) returns true; the library's tables and errors and the program's two tables of constants are laid as the text lays them (the card's tie). No conditions beyond the statement's own. -/
import Derived.Test.YthopahcgbbkblaaGreatDoorGf
import Derived.Test.YthopahcgbbkblaaGreatDoorIw
import Derived.Test.YthopahcgbbkblaaGreatDoorIx
import Derived.Test.YthopahcgbbkblaaGreatDoorGs
import Derived.Test.YthopahcgbbkblaaGreatDoorCards
import Derived.Test.YthopahcgbbkblaaGreatDoorTie
import Derived.WalkKit
import Derived.ProofKit
import Derived.OpenShut
import Derived.Deep.DeepHandedRow
import Derived.Deep.DeepWitnessRowRef
import Derived.LaidMore
import Derived.Lay
import Derived.MakeChecks

namespace Go.Proofs.YthopahcgbbkblaaGreatDoor.fnShardNew
open Go.Av
set_option maxRecDepth 100000
set_option linter.unusedVariables false

theorem contract (H : Type) (enc : TypeId × Value → H) (W : World) (base : Nat) (args : Array Value) (ds gs : List (DataW H)) (before : List MemPlace)
    (hval : ∀ (j : Nat) t v, Tryz.f3.params[j]? = some t → args[j]? = some v → Value.okWide Tryz.prog W .any base t v)
    (hW : DataW.Whole enc Tryz.prog Tryz.f3.params.toList Rows.fnShardNewSpec.vars false W args.toList ds gs before) (hk : Rows.uptoSmall H (ds ++ gs) = true)
    (hL : laidMetH Tryz.prog Rows.fnShardNewUptoRow.laid W) (hsh : W.ShapedOpen Tryz.prog) :
    Calls Tryz.prog 3 args W fun e W' => ∃ v, e = .returned v ∧ Rows.fnShardNewSpec.post enc Tryz.prog Tryz.f3 false true false false W args v W' := by
  have hfn : Rows.fnShardNewSpec.fn H (ds ++ gs) = { results := [.lit (.bool true)], args := ds, vars := gs } := by
    obtain ⟨p, q, h1, h2, _⟩ := hW
    obtain ⟨g1, g2, rfl⟩ := vars2 h2
    rw [Tryz.params3] at h1
    obtain ⟨_, _, _, _, _, _, _, rfl, _, _, h1⟩ := Go.ChangeShapes.trodAll_cons h1
    obtain ⟨_, rfl, _⟩ := Go.ChangeShapes.trodAll_nil h1
    rfl
  refine law_post (Rs := [isBytes]) (bulk_ok H) (bulk_le hk) laidOut (by kernel_rfl) (by kernel_rfl) (by kernel_rfl) Tryz.underlying4 (by rw [Tryz.params3]; exact ⟨aB, trivial⟩) hval hW hfn ?_
  intro S hS xs ha
  obtain ⟨d0, ⟨a0, h0, rfl⟩, rfl⟩ := args1 ha
  haveI : TabPow := ⟨by rw [hS]; exact pow10_of hL⟩
  obtain ⟨e1, e2⟩ := errs_of hL
  haveI : TabErr := ⟨by rw [hS]; exact e1, by rw [hS]; exact e2⟩
  haveI : TabMax := ⟨by rw [hS]; exact max_of hsh⟩
  exact fnShardNew_gives a0 _ h0.1

theorem door_met (os : Os) : laidMetH Tryz.prog Rows.fnShardNewUptoRow.laid ((World.laidAll Tryz.prog os Rows.fnShardNewUptoRow.laid).forCall (fun _ _ => 0) ⟨#[], #[.slice none 0 0], []⟩).memory :=
  by rw [MakeChecks.laidMetH_plain _ _ _ (by kernel_rfl)]; exact laidMet_laidAll _ (by kernel_rfl) (by kernel_rfl)
theorem reads (os : Os) {H : Type} (enc : TypeId × Value → H) : ∃ places, DataW.whole enc Tryz.prog ((World.laidAll Tryz.prog os Rows.fnShardNewUptoRow.laid).forCall (fun _ _ => 0) ⟨#[], #[.slice none 0 0], []⟩).memory Tryz.f3.params.toList Rows.fnShardNewSpec.vars false (#[.slice none 0 0] : Array Value).toList 8 = some ([.nil], [Rows.laid_loop_example_stopover_impl_roots, Rows.laid_loop_example_stopover_impl_cubes], places) :=
  ⟨(match DataW.whole enc Tryz.prog ((World.laidAll Tryz.prog os Rows.fnShardNewUptoRow.laid).forCall (fun _ _ => 0) ⟨#[], #[.slice none 0 0], []⟩).memory Tryz.f3.params.toList Rows.fnShardNewSpec.vars false (#[.slice none 0 0] : Array Value).toList 8 with | some (_, _, p) => p | none => []), by kernel_rfl⟩
theorem lifted (os : Os) (started : os.Started) (H : Type) (enc : TypeId × Value → H) (F : Stop.Interp) :
    ReturnsInHanded {} Tryz.checked os 3 .any ((Rows.OpenSpec.upto Rows.fnShardNewSpec).preRow enc Tryz.prog Tryz.f3 Rows.fnShardNewUptoRow.domain false Rows.fnShardNewUptoRow.laid) (((Rows.OpenSpec.upto Rows.fnShardNewSpec).at F).post enc Tryz.prog Tryz.f3 false true false false) := by
  obtain ⟨places, hx⟩ := reads os enc
  refine returnsInHanded_of_row (C := Tryz.checked) (s := Rows.OpenSpec.upto Rows.fnShardNewSpec) own started (by kernel_rfl) Tryz.func3
    (witness_row_atRef (enc := enc) (C := Tryz.checked) false (World.laidAll Tryz.prog os Rows.fnShardNewUptoRow.laid) #[.slice none 0 0] (World.laidAll_os _ _ _) (by kernel_rfl) (by kernel_rfl) (by kernel_rfl)
      (OpenSpec.preRow_of_cond 8 hx (by kernel_rfl) (fun k hk => by cases hk; kernel_rfl) (by kernel_rfl) (door_met os))) ?_
  intro W base args ds gs before hval hW _ hcond _ hL hsh _
  exact contract H enc W base args ds gs before hval hW (hcond _ rfl) hL hsh

theorem closed : joinedFacts Tryz.prog 3 Tryz.f3 (Rows.OpenSpec.upto Rows.fnShardNewSpec).bare Rows.fnShardNewUptoRow = true := by
  simp only [joinedFacts, Bool.and_eq_true, entM, entL, entK]
  repeat' apply And.intro
  all_goals first | exact True.intro | kernel_rfl
theorem said : Rows.FnShardNewUptoSaid :=
  OpenClaim.holds_of_cond 3 Tryz.f3 rfl rfl rfl rfl rfl rfl rfl ⟨rfl, rfl, rfl, rfl, rfl⟩ rfl rfl rfl rfl rfl (by kernel_rfl) Tryz.func3 closed
    (of_decide_eq_true (by kernel_rfl)) (by unfold Func.isWrapper; first | (rw [if_pos (by decide +kernel)]; kernel_rfl) | (rw [if_neg (by decide +kernel)]; exact ⟨rfl, rfl⟩))
    (fun os started H enc _ F => by rw [OpenClaim.pre_eq_preRow]; exact lifted os started H enc F)
theorem plain (f : FuncId) (fn : Func) (hf : Tryz.pinned.checked.prog.funcNamed "loop.example/stopover/laws.FnShardNew" = some f) (hfn : Tryz.pinned.checked.prog.funcs[f]? = some fn) :
    true = Tryz.pinned.checked.prog.looks [] ∧ ∀ (j : Nat) t, fn.params[j]? = some t → Tryz.pinned.checked.prog.wantsStandIn t = false := by
  obtain rfl : f = 3 := Option.some.inj ((show Tryz.prog.funcNamed "loop.example/stopover/laws.FnShardNew" = some 3 by kernel_rfl).symm.trans hf) |>.symm
  obtain rfl : fn = Tryz.f3 := (Option.some.inj (Tryz.func3.symm.trans hfn)).symm
  refine ⟨by kernel_rfl, fun j t ht => ?_⟩
  rw [Tryz.params3] at ht
  have hall : (#[22] : Array Nat).all (fun t => !Tryz.prog.wantsStandIn t) = true := by kernel_rfl
  rw [Array.all_eq_true] at hall
  obtain ⟨hj, rfl⟩ := Array.getElem?_eq_some_iff.1 ht
  have h3 := hall j hj
  simp only [Bool.not_eq_true'] at h3
  exact h3
theorem proved : Rows.FnShardNewUptoCardSaid :=
  Claim7.holds_tied_plain_at .later [] _ _ _ _ said (fun _ h => by cases h) (by kernel_rfl) (fun _ h => by cases h) fnShardNewUpto_row_tie rfl ⟨rfl, rfl⟩ (by kernel_rfl) rfl plain (by kernel_rfl)
end Go.Proofs.YthopahcgbbkblaaGreatDoor.fnShardNew
