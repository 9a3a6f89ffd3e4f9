/- Contracts of functions of the program (K2). -/
import Derived.Test.YtmehbbepppjikaaC13
import Derived.Test.YtmehbbepppjikaaC10
import Derived.Test.YtmehbbepppjikaaK1

namespace Go.Proofs.Ytmehbbepppjikaa
open Go.Av
set_option maxRecDepth 10000
set_option linter.unusedSimpArgs false
set_option linter.unusedVariables false

/-- a leg whose slices are rows of its own, from object r on -/
def Leg.dvc (l : Leg) (r : Nat) : List D := [.str l.name, .str l.src, .str l.dst, .int .i64 l.dep, .int .i64 l.arr, .int .i64 l.cap, .vec r false 1 0 l.limits.length l.limits.length, .vec (r + 1) false 1 0 l.sold.length l.sold.length, .vec (r + 2) false 1 0 l.bids.length l.bids.length, .vec (r + 3) true 3 0 l.holds.length l.holds.length]
def Leg.dv (l : Leg) (r : Nat) : D := .agg (l.dvc r)
def Leg.rows (l : Leg) : Hp := [.row (l.limits.map (.int .i64)), .row (l.sold.map (.int .i64)), .row (l.bids.map (.int .i64)), .row (l.holds.flatMap Hold.cs)]
theorem Leg.rows_len (l : Leg) : l.rows.length = 4 := rfl
theorem fw_refl (n : Nat) (h : Hp) (d : D) : FW n h d d := ⟨d, .refl d, .refl d⟩
attribute [push_cast] Leg.rows_len
theorem Leg.dvc_cl (l : Leg) {r n : Nat} (h : r + 4 ≤ n) : ∀ d, d ∈ l.dvc r → Cl n d := by
  simp only [Leg.dvc, List.mem_cons, List.not_mem_nil, or_false, forall_eq_or_imp, forall_eq, cl_int, cl_str, cl_vec, true_and]
  omega
theorem Leg.dvc_nm (l : Leg) {r n : Nat} (h : n ≤ r) : ∀ d, d ∈ l.dvc r → NM n d := by
  simp only [Leg.dvc, List.mem_cons, List.not_mem_nil, or_false, forall_eq_or_imp, forall_eq, nm_int, nm_str, nm_vec, true_and]
  omega
theorem Leg.dvc_ren (l : Leg) {n k r : Nat} (h : n ≤ r) : ∀ j (h1 : j < (l.dvc (r + k)).length) (h2 : j < (l.dvc r).length), Ren n k ((l.dvc (r + k))[j]) ((l.dvc r)[j]) := by
  intro j h1 h2
  have hv : ∀ (i : Nat) ag sz len cp, Ren n k (.vec (r + k + i) ag sz 0 len cp) (.vec (r + i) ag sz 0 len cp) := fun i ag sz len cp => by
    have := Ren.vec (n := n) (k := k) (r + i) ag sz 0 len cp (by omega)
    rwa [show r + i + k = r + k + i by omega] at this
  match j, h2 with
  | 0, _ => exact .str _
  | 1, _ => exact .str _
  | 2, _ => exact .str _
  | 3, _ => exact .int _ _
  | 4, _ => exact .int _ _
  | 5, _ => exact .int _ _
  | 6, _ => exact hv 0 _ _ _ _
  | 7, _ => exact hv 1 _ _ _ _
  | 8, _ => exact hv 2 _ _ _ _
  | 9, _ => exact hv 3 _ _ _ _
theorem Leg.dv_ren (l : Leg) {n k r : Nat} (h : n ≤ r) : Ren n k (l.dv (r + k)) (l.dv r) := .agg _ _ rfl (l.dvc_ren h)
theorem ints_ren (xs : List Int) (n k : Nat) : RenOb n k (.row (xs.map (D.int .i64))) (.row (xs.map (D.int .i64))) := .row _ _ rfl (fun j h1 h2 => by
  simp only [List.getElem_map]; exact .int _ _)
theorem holds_ren (xs : List Hold) (n k : Nat) : RenOb n k (.row (xs.flatMap Hold.cs)) (.row (xs.flatMap Hold.cs)) := .row _ _ rfl (fun j h1 h2 => by
  have := List.getElem_mem h1
  obtain ⟨x, _, hd⟩ := List.mem_flatMap.1 this
  simp only [Hold.cs, List.mem_cons, List.not_mem_nil, or_false] at hd
  rcases hd with e | e | e <;> rw [e] <;> exact .int _ _)
theorem Leg.rows_ren (l : Leg) (n k : Nat) : ∀ j (h1 : j < l.rows.length) (h2 : j < l.rows.length), RenOb n k (l.rows[j]) (l.rows[j]) := by
  intro j h1 h2
  match j, h2 with
  | 0, _ => exact ints_ren _ _ _
  | 1, _ => exact ints_ren _ _ _
  | 2, _ => exact ints_ren _ _ _
  | 3, _ => exact holds_ren _ _ _
theorem Leg.rows_nm (l : Leg) (n : Nat) : ∀ x, x ∈ l.rows → NMob n x := by
  have hi : ∀ xs : List Int, NMob n (.row (xs.map (D.int .i64))) := fun xs c hc => by
    obtain ⟨x, _, rfl⟩ := List.mem_map.1 hc
    exact .int _ _
  have hh : NMob n (.row (l.holds.flatMap Hold.cs)) := fun c hc => by
    obtain ⟨x, _, hd⟩ := List.mem_flatMap.1 hc
    simp only [Hold.cs, List.mem_cons, List.not_mem_nil, or_false] at hd
    rcases hd with rfl | rfl | rfl <;> exact .int _ _
  simp only [Leg.rows, List.mem_cons, List.not_mem_nil, or_false, forall_eq_or_imp, forall_eq, hi, hh, and_self]
theorem Leg.rows_cl (l : Leg) (n : Nat) : ∀ x, x ∈ l.rows → ObCl n x := by
  simp only [Leg.rows, List.mem_cons, List.not_mem_nil, or_false, forall_eq_or_imp, forall_eq]
  exact ⟨ints_cl _ _, ints_cl _ _, ints_cl _ _, holds_cl _ _⟩
theorem old_ob (h : Hp) : ∀ (r : Nat) x, h[r]? = some x → h[r]? = some x ∨ ObCl h.length x := fun _ _ e => .inl e

theorem copyOfR (l : Leg) (h : Hp) : Meets Try.prog 105 [l.d] h fun d' h' => d' = l.dv h.length ∧ h' = h ++ l.rows := by
  refine Meets.compact (hb := h) (junk := [.row (l.dvc (h.length + 2)), .row (l.dvc (h.length + 2))]) (rows1 := l.rows) rfl (old_ob h) (l.dv_ren (Nat.le_refl _)) rfl (l.rows_ren _ _) ?_
  refine meets_of [] mixed Try.func105 rfl (by kernel_rfl) (by kernel_rfl) (by rw [Try.ntmps105]; simp only [List.length_cons, List.length_nil]; omega) (fun hf => ?_)
  rw [Try.results105]
  clear hf
  try simp -implicitDefEqProofs only [push_cast, Nat.reduceEqDiff, Nat.reduceBEq, Nat.reduceBNe, Nat.reduceAdd, Nat.reduceMul, Nat.reduceLT, Nat.reduceLeDiff, Nat.reduceSub, reduceCtorEq, Int.reduceToNat, ↓reduceIte]
  repeat'
    (first
     | (refine uYes ?_; first | exact List.mem_cons_self | (simp only [List.mem_cons, List.not_mem_nil, or_false, true_or, or_true]; done))
     | (refine uNo (by kernel_rfl))
     | (refine flatMk ?_; kernel_rfl)
     | (refine And.intro ?_ ?_)
     | (intro hx)
     | ((first
         | (refine inX_mk [] (by kernel_rfl) (by simp) ?_)
         | (refine callGF ?_)
         | (refine callQGF ?_)
         | (refine skipG ?_)
         | (refine callM (icloneR _ _ rfl) ?_)
         | (refine callX (by kernel_rfl) (fun _ hl => (icloneR _ _ hl)) ?_)
         | (refine callM (hcloneR _ _ rfl) ?_)
         | (refine callX (by kernel_rfl) (fun _ hl => (hcloneR _ _ hl)) ?_)); simp -implicitDefEqProofs only [push_cast, Nat.reduceEqDiff, Nat.reduceBEq, Nat.reduceBNe, Nat.reduceAdd, Nat.reduceMul, Nat.reduceLT, Nat.reduceLeDiff, Nat.reduceSub, reduceCtorEq, Int.reduceToNat, ↓reduceIte]))
  all_goals first
    | omega
    | exact fw_refl _ _ _
    | exact .agg _ (l.dvc_cl (by omega))
    | rfl
    | exact l.dvc_cl (by omega) _ hx
    | exact l.rows_cl _ _ hx
end Go.Proofs.Ytmehbbepppjikaa
