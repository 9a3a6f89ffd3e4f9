/- For all bytes, as far as the statement's own bound goes: the law FnLogTorn (a drawn log in which power was lost says what it said ahead of a record, or behind it) returns true; the library's tables and errors and the program's two tables of constants are laid as the text lays them (the card's tie). No conditions beyond the statement's own. -/
import Derived.Test.YtcmpcpigchlhpaaDoorGf
import Derived.Test.YtcmpcpigchlhpaaDoorHk
import Derived.Test.YtcmpcpigchlhpaaDoorHi
import Derived.Test.YtcmpcpigchlhpaaDoorGs
import Derived.Test.YtcmpcpigchlhpaaDoorCards
import Derived.Test.YtcmpcpigchlhpaaDoorTie
import Derived.WalkKit
import Derived.ProofKit
import Derived.OpenShut
import Derived.Deep.DeepHandedRow
import Derived.Deep.DeepWitnessRowRef
import Derived.LaidMore
import Derived.Lay
import Derived.MakeChecks

namespace Go.Proofs.YtcmpcpigchlhpaaDoor.fnLogTorn
open Go.Av
set_option maxRecDepth 100000
set_option linter.unusedVariables false

theorem contract (H : Type) (enc : TypeId × Value → H) (W : World) (base : Nat) (args : Array Value) (ds gs : List (DataW H)) (before : List MemPlace)
    (hval : ∀ (j : Nat) t v, Tryd.f5.params[j]? = some t → args[j]? = some v → Value.okWide Tryd.prog W .any base t v)
    (hW : DataW.Whole enc Tryd.prog Tryd.f5.params.toList Rows.fnLogTornSpec.vars false W args.toList ds gs before) (hk : Rows.uptoSmall H (ds ++ gs) = true)
    (hL : laidMetH Tryd.prog Rows.fnLogTornUptoRow.laid W) (hsh : W.ShapedOpen Tryd.prog) :
    Calls Tryd.prog 5 args W fun e W' => ∃ v, e = .returned v ∧ Rows.fnLogTornSpec.post enc Tryd.prog Tryd.f5 false true false false W args v W' := by
  have hfn : Rows.fnLogTornSpec.fn H (ds ++ gs) = { results := [.lit (.bool true)], args := ds, vars := gs } := by
    obtain ⟨p, q, h1, h2, _⟩ := hW
    obtain ⟨g1, g2, rfl⟩ := vars2 h2
    rw [Tryd.params5] at h1
    obtain ⟨_, _, _, _, _, _, _, rfl, _, _, h1⟩ := Go.ChangeShapes.trodAll_cons h1
    obtain ⟨_, _, _, _, _, _, _, rfl, _, _, h1⟩ := Go.ChangeShapes.trodAll_cons h1
    obtain ⟨_, rfl, _⟩ := Go.ChangeShapes.trodAll_nil h1
    rfl
  refine law_post (Rs := [isBytes, isBytes]) (bulk_ok H) (bulk_le hk) laidOut (by kernel_rfl) (by kernel_rfl) (by kernel_rfl) Tryd.underlying4 (by rw [Tryd.params5]; exact ⟨aB, aB, trivial⟩) hval hW hfn ?_
  intro S hS xs ha
  obtain ⟨d0, d1, ⟨a0, h0, rfl⟩, ⟨a1, h1, rfl⟩, rfl⟩ := args2 ha
  haveI : TabPow := ⟨by rw [hS]; exact pow10_of hL⟩
  obtain ⟨e1, e2⟩ := errsL_of hL
  haveI : TabErr := ⟨by rw [hS]; exact e1, by rw [hS]; exact e2⟩
  haveI : TabMax := ⟨by rw [hS]; exact max_of hsh⟩
  haveI : TabBits := ⟨gvar_tab debr_g (by rw [hS]; exact debr_of hL)⟩
  haveI : TabSha := ⟨gvar_tab cubes_g (by rw [hS]; exact cubes_of hL), gvar_tab roots_g (by rw [hS]; exact roots_of hL)⟩
  exact fnLogTorn_gives a0 a1 _ h0.1

theorem door_met (os : Os) : laidMetH Tryd.prog Rows.fnLogTornUptoRow.laid ((World.laidAll Tryd.prog os Rows.fnLogTornUptoRow.laid).forCall (fun _ _ => 0) ⟨#[], #[.slice none 0 0, .slice none 0 0], []⟩).memory :=
  by rw [MakeChecks.laidMetH_plain _ _ _ (by kernel_rfl)]; exact laidMet_laidAll _ (by kernel_rfl) (by kernel_rfl)
theorem reads (os : Os) {H : Type} (enc : TypeId × Value → H) : ∃ places, DataW.whole enc Tryd.prog ((World.laidAll Tryd.prog os Rows.fnLogTornUptoRow.laid).forCall (fun _ _ => 0) ⟨#[], #[.slice none 0 0, .slice none 0 0], []⟩).memory Tryd.f5.params.toList Rows.fnLogTornSpec.vars false (#[.slice none 0 0, .slice none 0 0] : Array Value).toList 8 = some ([.nil, .nil], [Rows.laid_loop_example_stopover_impl_roots, Rows.laid_loop_example_stopover_impl_cubes], places) :=
  ⟨(match DataW.whole enc Tryd.prog ((World.laidAll Tryd.prog os Rows.fnLogTornUptoRow.laid).forCall (fun _ _ => 0) ⟨#[], #[.slice none 0 0, .slice none 0 0], []⟩).memory Tryd.f5.params.toList Rows.fnLogTornSpec.vars false (#[.slice none 0 0, .slice none 0 0] : Array Value).toList 8 with | some (_, _, p) => p | none => []), by kernel_rfl⟩
theorem lifted (os : Os) (started : os.Started) (H : Type) (enc : TypeId × Value → H) (F : Stop.Interp) :
    ReturnsInHanded {} Tryd.checked os 5 .any ((Rows.OpenSpec.upto Rows.fnLogTornSpec).preRow enc Tryd.prog Tryd.f5 Rows.fnLogTornUptoRow.domain false Rows.fnLogTornUptoRow.laid) (((Rows.OpenSpec.upto Rows.fnLogTornSpec).at F).post enc Tryd.prog Tryd.f5 false true false false) := by
  obtain ⟨places, hx⟩ := reads os enc
  refine returnsInHanded_of_row (C := Tryd.checked) (s := Rows.OpenSpec.upto Rows.fnLogTornSpec) own started (by kernel_rfl) Tryd.func5
    (witness_row_atRef (enc := enc) (C := Tryd.checked) false (World.laidAll Tryd.prog os Rows.fnLogTornUptoRow.laid) #[.slice none 0 0, .slice none 0 0] (World.laidAll_os _ _ _) (by kernel_rfl) (by kernel_rfl) (by kernel_rfl)
      (OpenSpec.preRow_of_cond 8 hx (by kernel_rfl) (fun k hk => by cases hk; kernel_rfl) (by kernel_rfl) (door_met os))) ?_
  intro W base args ds gs before hval hW _ hcond _ hL hsh _
  exact contract H enc W base args ds gs before hval hW (hcond _ rfl) hL hsh

theorem closed : joinedFacts Tryd.prog 5 Tryd.f5 (Rows.OpenSpec.upto Rows.fnLogTornSpec).bare Rows.fnLogTornUptoRow = true := by
  simp only [joinedFacts, Bool.and_eq_true, entM, entL, entK]
  repeat' apply And.intro
  all_goals first | exact True.intro | kernel_rfl
theorem said : Rows.FnLogTornUptoSaid :=
  OpenClaim.holds_of_cond 5 Tryd.f5 rfl rfl rfl rfl rfl rfl rfl ⟨rfl, rfl, rfl, rfl, rfl⟩ rfl rfl rfl rfl rfl (by kernel_rfl) Tryd.func5 closed
    (of_decide_eq_true (by kernel_rfl)) (by unfold Func.isWrapper; first | (rw [if_pos (by decide +kernel)]; kernel_rfl) | (rw [if_neg (by decide +kernel)]; exact ⟨rfl, rfl⟩))
    (fun os started H enc _ F => by rw [OpenClaim.pre_eq_preRow]; exact lifted os started H enc F)
theorem plain (f : FuncId) (fn : Func) (hf : Tryd.pinned.checked.prog.funcNamed "loop.example/stopover/laws.FnLogTorn" = some f) (hfn : Tryd.pinned.checked.prog.funcs[f]? = some fn) :
    true = Tryd.pinned.checked.prog.looks [] ∧ ∀ (j : Nat) t, fn.params[j]? = some t → Tryd.pinned.checked.prog.wantsStandIn t = false := by
  obtain rfl : f = 5 := Option.some.inj ((show Tryd.prog.funcNamed "loop.example/stopover/laws.FnLogTorn" = some 5 by kernel_rfl).symm.trans hf) |>.symm
  obtain rfl : fn = Tryd.f5 := (Option.some.inj (Tryd.func5.symm.trans hfn)).symm
  refine ⟨by kernel_rfl, fun j t ht => ?_⟩
  rw [Tryd.params5] at ht
  have hall : (#[22, 22] : Array Nat).all (fun t => !Tryd.prog.wantsStandIn t) = true := by kernel_rfl
  rw [Array.all_eq_true] at hall
  obtain ⟨hj, rfl⟩ := Array.getElem?_eq_some_iff.1 ht
  have h3 := hall j hj
  simp only [Bool.not_eq_true'] at h3
  exact h3
theorem proved : Rows.FnLogTornUptoCardSaid :=
  Claim7.holds_tied_plain_at .later [] _ _ _ _ said (fun _ h => by cases h) (by kernel_rfl) (fun _ h => by cases h) fnLogTornUpto_row_tie rfl ⟨rfl, rfl⟩ (by kernel_rfl) rfl plain (by kernel_rfl)
end Go.Proofs.YtcmpcpigchlhpaaDoor.fnLogTorn
