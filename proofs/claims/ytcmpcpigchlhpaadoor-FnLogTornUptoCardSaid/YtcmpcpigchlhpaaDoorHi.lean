/- What a log card's row gives: the two errors, and three tables. -/
import Derived.Test.YtcmpcpigchlhpaaDoorGx
import Derived.Test.YtcmpcpigchlhpaaDoorHf

namespace Go.Proofs.YtcmpcpigchlhpaaDoor
set_option linter.unusedSectionVars false
open Go.Av
variable [Av.Start]
set_option maxRecDepth 10000
set_option maxHeartbeats 1000000
set_option linter.unusedVariables false

omit [Av.Start] in
theorem vars2 {H : Type} {enc : TypeId × Value → H} {P : Program} {w : World} {spare : Nat → Bool} {a b : String} {gs : List (DataW H)} {ps : List MemPlace} (h : DataW.TrodVars enc P w spare [a, b] gs ps) : ∃ g1 g2, gs = [g1, g2] := by
  match gs, h with
  | [], h => exact h.elim
  | [g1], h => obtain ⟨_, _, _, _, _, _, _, _, _, _, h, _⟩ := h; exact h.elim
  | [g1, g2], _ => exact ⟨g1, g2, rfl⟩
  | g1 :: g2 :: g3 :: gs, h =>
    obtain ⟨_, _, _, _, _, _, _, _, _, _, h, _⟩ := h
    obtain ⟨_, _, _, _, _, _, _, _, _, _, h, _⟩ := h
    exact h.elim
theorem errsL_of {W : World} {a b c : String × DataW Unit} {rest : List (String × DataW Unit)}
    (h : laidMet Tryd.prog (a :: b :: c :: ("strconv.ErrRange", Rows.laid_strconv_ErrRange) :: ("strconv.ErrSyntax", Rows.laid_strconv_ErrSyntax) :: rest) W) :
    (∃ tp p, W.var? Tryd.prog "strconv.ErrSyntax" = some #[.iface tp p]) ∧ ∃ tp p, W.var? Tryd.prog "strconv.ErrRange" = some #[.iface tp p] :=
  ⟨sentVar h.tail.tail.tail.tail syntG syntT, sentVar h.tail.tail.tail rangG rangT⟩
theorem debr_g : Tryd.prog.globalNamed "math/bits.deBruijn64tab" = some 7 := by kernel_rfl
theorem debr_tab : (Rows.laid_math_bits_deBruijn64tab : DataW Unit) = Lib.tabData .u8 dbr := by kernel_rfl
theorem debr_of {W : World} {a : String × DataW Unit} {rest : List (String × DataW Unit)} (h : laidMet Tryd.prog (a :: ("math/bits.deBruijn64tab", Rows.laid_math_bits_deBruijn64tab) :: rest) W) : Lib.TabIs Tryd.prog W "math/bits.deBruijn64tab" .u8 dbr := by
  have h := h.tail
  rw [debr_tab] at h
  exact Lib.tabIs_of_head debr_g (t := 127) (e := 5) (n := 64) (by kernel_rfl) Tryd.underlying127 Tryd.underlying5 (by kernel_rfl) (by kernel_rfl) h
theorem roots_g : Tryd.prog.globalNamed "loop.example/stopover/impl.roots" = some 0 := by kernel_rfl
theorem roots_tab : (Rows.laid_loop_example_stopover_impl_roots : DataW Unit) = Lib.tabData .u32 rootsL := by kernel_rfl
theorem cubes_g : Tryd.prog.globalNamed "loop.example/stopover/impl.cubes" = some 2 := by kernel_rfl
theorem cubes_tab : (Rows.laid_loop_example_stopover_impl_cubes : DataW Unit) = Lib.tabData .u32 cubesL := by kernel_rfl
theorem roots_of {W : World} {a b c d e : String × DataW Unit} {rest : List (String × DataW Unit)} (h : laidMet Tryd.prog (a :: b :: c :: d :: e :: ("loop.example/stopover/impl.roots", Rows.laid_loop_example_stopover_impl_roots) :: rest) W) : Lib.TabIs Tryd.prog W "loop.example/stopover/impl.roots" .u32 rootsL := by
  have h := h.tail.tail.tail.tail.tail
  rw [roots_tab] at h
  exact Lib.tabIs_of_head roots_g (t := 69) (e := 68) (n := 8) (by kernel_rfl) Tryd.underlying69 Tryd.underlying68 (by kernel_rfl) (by kernel_rfl) h
theorem cubes_of {W : World} {a b c d e f : String × DataW Unit} {rest : List (String × DataW Unit)} (h : laidMet Tryd.prog (a :: b :: c :: d :: e :: f :: ("loop.example/stopover/impl.cubes", Rows.laid_loop_example_stopover_impl_cubes) :: rest) W) : Lib.TabIs Tryd.prog W "loop.example/stopover/impl.cubes" .u32 cubesL := by
  have h := h.tail.tail.tail.tail.tail.tail
  rw [cubes_tab] at h
  exact Lib.tabIs_of_head cubes_g (t := 90) (e := 68) (n := 64) (by kernel_rfl) Tryd.underlying90 Tryd.underlying68 (by kernel_rfl) (by kernel_rfl) h
end Go.Proofs.YtcmpcpigchlhpaaDoor
