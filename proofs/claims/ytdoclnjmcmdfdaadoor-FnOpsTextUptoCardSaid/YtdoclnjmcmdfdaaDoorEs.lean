/- Contracts of the library's functions, proved over worlds, as contracts over data. -/
import Derived.Test.YtdoclnjmcmdfdaaDoorEd
import Derived.Below
import Derived.WalkKit

namespace Go.Av
set_option linter.unusedSectionVars false
open Go.RowKit

theorem adds_below {w w' : World} (H : Below w.heap.size w w') : Adds w w' := ⟨H.os, H.tape, H.output, H.size, H.block⟩
variable [Start]
/-- what lies in the start world lies there still -/
theorem Inv.cell0 {w : World} {σ : Sg} {h : Hp} (hi : Inv w σ h) {a : Addr} {v : Value} (e : Start.w0.cell? a = some v) : w.cell? a = some v := by
  have hb := World.block_lt_of_cell? (w := Start.w0) (a := a) e
  have := hi.kept.same a.block hb
  rw [← e]
  simp only [World.cell?, this]
omit [Start] in
theorem var_kept {P : Program} {w w0 : World} (hs : ∀ b : Nat, b < w0.heap.size → w.heap[b]? = w0.heap[b]?) {n : String} {vs : Array Value} (e : w0.var? P n = some vs) : w.var? P n = some vs := by
  unfold World.var? at e ⊢
  cases hg : P.globalNamed n with
  | none => rw [hg] at e; cases e
  | some g =>
    rw [hg] at e
    simp only [Option.bind_some] at e ⊢
    have hlt : g < w0.heap.size := by
      apply Decidable.byContradiction
      intro hn
      rw [Array.getElem?_eq_none (by omega)] at e
      cases e
    rw [hs g hlt]
    exact e
omit [Start] in
theorem enters_at {P : Program} {f : FuncId} {fn : Func} (hf : P.funcs[f]? = some fn) (hb : fn.body.isSome = true) (hname : (fn.name == "runtime.NumGoroutine") = false) : Enters P f := by
  obtain ⟨c, hc⟩ := Option.isSome_iff_exists.1 hb
  exact enters_of hf hc hname
theorem gives_lib {P : Program} {f : FuncId} {args : List D} {h : Hp} {d : D} (he : Enters P f)
    (H : ∀ w σ vs, Inv w σ h → RepL w (own σ h) σ h args vs → Calls P f vs.toArray w fun e w' => ∃ v, e = .returned v ∧ Below w.heap.size w w' ∧ ∀ (ow : Nat → Nat → Prop), (∀ b o, ow b o → b < w.heap.size) → Rep w' ow σ h d v) : Gives P f args h d := by
  refine ⟨he, fun w σ vs hi hr => (H w σ vs hi hr).mono ?_⟩
  rintro e w' ⟨v, rfl, hb, hd⟩
  obtain ⟨g1, g2⟩ := inv_same hi (adds_below hb)
  exact ⟨v, rfl, d, h, σ, ⟨rfl, rfl⟩, g1, hd _ (fun b o ho => inv_lt hi ho), g2⟩

/-- A loop behind which slices stand that it appends to. -/
theorem ev_loopB {P : Program} {mu : List Nat} {fr : Fr} {h : Hp} {Q : Exit → St → Prop} {c : Code} {α : Type} (toks : List (Nat × Nat)) (L : α → List (Nat × D)) (ls0 : α → Hp) (I : α → Prop) (μ : α → Nat) (x0 : α)
    (ht : tokOks ⟨fr, h⟩ toks) (hI : I x0) (hW : ∃ k, k ≤ (ls0 x0).length ∧ (tokSts ⟨fr, h⟩ toks).h.length = h.length + k ∧ WeakTo h k (tokSts ⟨fr, h⟩ toks) (L x0) (ls0 x0))
    (hround : ∀ x, I x → ev P mu c (thenE (RoundOk h.length (LoopInv h L ls0 I μ) (μ x) ⟨frL (L x), h ++ ls0 x⟩) Q) ⟨frL (L x), h ++ ls0 x⟩) : ev P mu (.loop c) Q ⟨fr, h⟩ := by
  have e := ev_loop (h := h) (ls := []) (P := P) (mu := mu) (fr := fr) (c := c) (Q := Q) toks L ls0 I μ x0
  simp only [List.append_nil] at e
  exact e ht hI hW hround
end Go.Av
