/- Contracts of functions of the program (Gc). -/
import Derived.Test.YthopahcgbbkblaaGreatDoorGa
import Derived.Test.YthopahcgbbkblaaGreatDoorGb

namespace Go.Proofs.YthopahcgbbkblaaGreatDoor
set_option linter.unusedSectionVars false
open Go.Av
variable [Av.Start]
set_option maxRecDepth 10000
set_option maxHeartbeats 1000000
set_option linter.unusedSimpArgs false
set_option linter.unusedVariables false

/-- a row of n elements of which the first k are laid -/
def fillRow {α : Type} (f : α → List D) (z : List D) (xs : List α) (k : Nat) : List D := (xs.take k).flatMap f ++ zeros z (xs.length - k)
omit [Av.Start] in
theorem zeros_length (z : List D) (n : Nat) : (zeros z n).length = n * z.length := by
  simp [zeros, List.length_flatten]
omit [Av.Start] in
theorem flatMap_length {α : Type} {f : α → List D} {m : Nat} (hf : ∀ x, (f x).length = m) : ∀ xs : List α, (xs.flatMap f).length = xs.length * m
  | [] => by simp
  | x :: xs => by rw [List.flatMap_cons, List.length_append, hf, flatMap_length hf xs, List.length_cons, Nat.succ_mul]; omega
omit [Av.Start] in
theorem fillRow_length {α : Type} {f : α → List D} {z : List D} {m : Nat} (hf : ∀ x, (f x).length = m) (hz : z.length = m) (xs : List α) {k : Nat} (hk : k ≤ xs.length) : (fillRow f z xs k).length = xs.length * m := by
  rw [fillRow, List.length_append, flatMap_length hf, zeros_length, hz, List.length_take, ← Nat.add_mul]
  congr 1
  omega
omit [Av.Start] in
theorem fillRow_zero {α : Type} (f : α → List D) (z : List D) (xs : List α) : fillRow f z xs 0 = zeros z xs.length := by simp [fillRow]
omit [Av.Start] in
theorem fillRow_splice {α : Type} {f : α → List D} {z : List D} {m : Nat} (hf : ∀ x, (f x).length = m) (hz : z.length = m) (xs : List α) (d : α) {k : Nat} (hk : k < xs.length) :
    splice (fillRow f z xs k) (k * m) (f (xs.getD k d)) = fillRow f z xs (k + 1) := by
  have h1 : ((xs.take k).flatMap f).length = k * m := by rw [flatMap_length hf, List.length_take]; congr 1; omega
  have h2 : xs.length - k = (xs.length - (k + 1)) + 1 := by omega
  rw [splice, fillRow, fillRow, take_succ_getD xs d hk, List.flatMap_append, h2, zeros, List.replicate_succ, List.flatten_cons]
  rw [List.take_append_of_le_length (by omega), List.take_of_length_le (by omega), hf, List.drop_append, List.drop_of_length_le (by omega), h1]
  rw [show k * m + m - k * m = m by omega, List.drop_append_of_le_length (by omega), List.drop_of_length_le (by omega)]
  simp [zeros]
omit [Av.Start] in
theorem chunk_map {α : Type} {g : α → D} {ag : Bool} {m : Nat} (h0 : 0 < m) (hg : ∀ x, (if ag then D.agg ((g x).cells) else ((g x).cells).headD .junk) = g x) (hm : ∀ x, (g x).cells.length = m) : ∀ (xs : List α) (n : Nat), n = xs.length → chunk ag m n (xs.flatMap fun x => (g x).cells) = xs.map g
  | [], n, h => by subst h; rfl
  | x :: xs, n, h => by
    subst h
    have hx := hg x
    rw [List.length_cons, chunk, List.flatMap_cons, List.map_cons]
    have e1 : ((g x).cells ++ xs.flatMap fun x => (g x).cells).take m = (g x).cells := by
      rw [List.take_append_of_le_length (by rw [hm]; omega), List.take_of_length_le (by rw [hm]; omega)]
    have e2 : ((g x).cells ++ xs.flatMap fun x => (g x).cells).drop m = xs.flatMap fun x => (g x).cells := by
      rw [List.drop_append, List.drop_of_length_le (by rw [hm]; omega), hm, Nat.sub_self, List.drop_zero, List.nil_append]
    rw [e1, e2, chunk_map h0 hg hm xs _ rfl]
    congr 1
    cases ag with
    | true => exact hx
    | false =>
      simp only [Bool.false_eq_true, if_false] at hx ⊢
      have hl := hm x
      cases e : (g x).cells with
      | nil => rw [e] at hl; simp at hl; omega
      | cons c cs => rw [e] at hx; exact hx
omit [Av.Start] in
theorem fillRow_full {α : Type} (f : α → List D) (z : List D) (xs : List α) : fillRow f z xs xs.length = xs.flatMap f := by simp [fillRow, zeros]
omit [Av.Start] in
theorem mem_zeros {z : List D} {n : Nat} {d : D} (h : d ∈ zeros z n) : d ∈ z := by
  simp only [zeros, List.mem_flatten, List.mem_replicate] at h
  obtain ⟨l, ⟨_, rfl⟩, hd⟩ := h
  exact hd
omit [Av.Start] in
theorem mem_fillRow {α : Type} {f : α → List D} {z : List D} {xs : List α} {k : Nat} {d : D} (h : d ∈ fillRow f z xs k) : d ∈ z ∨ ∃ x, x ∈ xs ∧ d ∈ f x := by
  rcases List.mem_append.1 h with h | h
  · obtain ⟨x, hx, hd⟩ := List.mem_flatMap.1 h
    exact .inr ⟨x, List.mem_of_mem_take hx, hd⟩
  · exact .inl (mem_zeros h)
omit [Av.Start] in
theorem take_flat {α : Type} {f : α → List D} {m : Nat} (hf : ∀ x, (f x).length = m) (xs : List α) : (xs.flatMap f).take (xs.length * m) = xs.flatMap f :=
  List.take_of_length_le (by rw [flatMap_length hf]; omega)
end Go.Proofs.YthopahcgbbkblaaGreatDoor

namespace Go.Proofs.YthopahcgbbkblaaGreatDoor
set_option linter.unusedSectionVars false
open Go.Av
variable [Av.Start]
set_option maxRecDepth 10000
set_option linter.unusedSimpArgs false
set_option linter.unusedVariables false

end Go.Proofs.YthopahcgbbkblaaGreatDoor

namespace Go.Proofs.YthopahcgbbkblaaGreatDoor
set_option linter.unusedSectionVars false
open Go.Av
variable [Av.Start]
set_option maxRecDepth 10000
set_option linter.unusedSimpArgs false
set_option linter.unusedVariables false

def szGo (n : Int) : List Nat → Int
  | [] => n
  | k :: ks => if IntKind.i64.wrap (n - k) < 0 then -1 else szGo (IntKind.i64.wrap (n - k)) ks
end Go.Proofs.YthopahcgbbkblaaGreatDoor

namespace Go.Proofs.YthopahcgbbkblaaGreatDoor
set_option linter.unusedSectionVars false
open Go.Av
variable [Av.Start]
set_option maxRecDepth 10000
set_option linter.unusedSimpArgs false
set_option linter.unusedVariables false

def eqLegB (a b : Leg) : Bool := decide (a.name = b.name) && decide (a.src = b.src) && decide (a.dst = b.dst) && decide (a.dep = b.dep) && decide (a.arr = b.arr) && decide (a.cap = b.cap) && decide (a.limits = b.limits) && decide (a.sold = b.sold) && decide (a.bids = b.bids) && decide (a.holds = b.holds)
omit [Av.Start] in
theorem eqLegB_self (a : Leg) : eqLegB a a = true := by simp [eqLegB]
end Go.Proofs.YthopahcgbbkblaaGreatDoor
