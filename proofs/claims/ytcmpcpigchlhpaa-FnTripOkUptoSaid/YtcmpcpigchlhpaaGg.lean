/- Contracts of functions of the program (Gg). -/
import Derived.Test.YtcmpcpigchlhpaaGd
import Derived.Test.YtcmpcpigchlhpaaGe
import Derived.Test.YtcmpcpigchlhpaaGc

namespace Go.Proofs.Ytcmpcpigchlhpaa
set_option linter.unusedSectionVars false
open Go.Av
variable [Av.Start]
set_option maxRecDepth 10000
set_option linter.unusedSimpArgs false
set_option linter.unusedVariables false

omit [Av.Start] in
theorem flat_ints (k : IntKind) (xs : List Int) : flat (xs.map (D.int k)) = xs.map (D.int k) := by
  rw [flat, List.flatMap_map]
  induction xs with
  | nil => rfl
  | cons x xs ih => rw [List.flatMap_cons, ih]; rfl
omit [Av.Start] in
theorem flat_holds (xs : List Hold) : flat (xs.map Hold.d) = xs.flatMap Hold.cs := by
  rw [flat, List.flatMap_map]
  rfl
attribute [push_cast] flat_ints flat_holds
omit [Av.Start] in
theorem ints_c1 (xs : List Int) : ∀ d, d ∈ xs.map (D.int .i64) → cell1 d := by
  intro d hd
  obtain ⟨x, _, rfl⟩ := List.mem_map.1 hd
  trivial
omit [Av.Start] in
theorem holds_c1 (xs : List Hold) : ∀ d, d ∈ xs.flatMap Hold.cs → cell1 d := by
  intro d hd
  obtain ⟨x, _, hd⟩ := List.mem_flatMap.1 hd
  simp only [Hold.cs, List.mem_cons, List.not_mem_nil, or_false] at hd
  rcases hd with rfl | rfl | rfl <;> trivial
omit [Av.Start] in
theorem ints_cl (xs : List Int) (n : Nat) : ∀ d, d ∈ xs.map (D.int .i64) → Cl n d := by
  intro d hd
  obtain ⟨x, _, rfl⟩ := List.mem_map.1 hd
  exact .int _ _
omit [Av.Start] in
theorem holds_cl (xs : List Hold) (n : Nat) : ∀ d, d ∈ xs.flatMap Hold.cs → Cl n d := by
  intro d hd
  obtain ⟨x, _, hd⟩ := List.mem_flatMap.1 hd
  simp only [Hold.cs, List.mem_cons, List.not_mem_nil, or_false] at hd
  rcases hd with rfl | rfl | rfl <;> exact .int _ _
theorem callM {P : Program} {mu : List Nat} {ops rest : List Oper} {dst : Option Tmp} {fr : Fr} {h : Hp} {K : St → Prop} {f : FuncId} {ys : List D} {d : D} {hh : Hp} (c : Meets P f ys h fun d' h' => d' = d ∧ h' = hh) (k : evOps P mu ops rest ⟨putO fr dst d, hh⟩ K) : CallSt P mu ops rest dst fr h K f ys :=
  call_meets c (wkL_same ys) (fun d' h' ⟨e1, e2⟩ => by subst e1 e2; exact k)
/-- An empty slice is an empty row. -/
theorem ghost {P : Program} {f : FuncId} {args : List D} {h : Hp} (H : Gives P f args h (.slice [] .full)) (ag : Bool) (sz : Nat) : Meets P f args h fun d' h' => d' = .vec h.length ag sz 0 0 0 ∧ h' = h ++ [.row []] := by
  refine ⟨H.1, fun w σ vs hi hr => (H.2 w σ vs hi hr).mono ?_⟩
  rintro e w' ⟨v, he, d, h', σ', ⟨rfl, rfl⟩, hi', hd, hst⟩
  obtain ⟨g1, g2⟩ := inv_add hi' (Adds.refl w') none (.row []) (fun b e => by cases e) (fun cs e _ => by cases e; exact ⟨.inl ⟨rfl, fun b hb => by rw [List.getElem?_append_right (by rw [hi'.len]; exact Nat.le_refl _), hi'.len, Nat.sub_self] at hb; cases hb⟩⟩)
  refine ⟨v, he, _, _, _, ⟨rfl, rfl⟩, g1, ?_, hst.trans g2⟩
  cases hd with
  | slice _ _ a cap vs hlen hcap hfull htok hc hr => exact .vec h'.length ag sz 0 0 0 a cap (Nat.zero_le _) ⟨Nat.le_refl _, Nat.zero_le _⟩ (by simp) (fun k hk => by rw [List.getElem?_append_right (Nat.le_refl _)] at hk; simp at hk) (.inl hfull)

theorem iClone_gives (xs : List Int) (h : Hp) : Gives Try.prog 104 [.slice (xs.map (.int .i64)) .no] h (.slice (xs.map (.int .i64)) .no) := by
  refine meets_of [] mixed Try.func104 rfl (by kernel_rfl) (by kernel_rfl) (by rw [Try.ntmps104]; simp only [List.length_cons, List.length_nil]; omega) (fun hf => ?_)
  rw [Try.results104]
  have hl : xs.length ≤ 1073741824 := by simpa [fitsD, flen, lenMax] using hf
  clear hf
  try simp -implicitDefEqProofs only [push_cast, Nat.reduceEqDiff, Nat.reduceBEq, Nat.reduceBNe, Nat.reduceAdd, Nat.reduceMul, Nat.reduceLT, Nat.reduceLeDiff, Nat.reduceSub, reduceCtorEq, Int.reduceToNat, ↓reduceIte]
  repeat'
    (first
     | (refine uYes ?_; first | exact List.mem_cons_self | (simp only [List.mem_cons, List.not_mem_nil, or_false, true_or, or_true]; done))
     | (refine uNo (by kernel_rfl))
     | (refine flatMk ?_; kernel_rfl)
     | (refine And.intro ?_ ?_)
     | (intro hx)
     | ((first
         | (refine callGF ?_)
         | (refine callQGF ?_)
         | (refine skipG ?_)
         | (refine callS (in_gives ..) ?_)
         | (refine callQ (in_gives ..) ?_)
         | (refine callG (fun hc => (in_gives ..)) ?_)
         | (refine callQG (fun hc => (in_gives ..)) ?_)); simp -implicitDefEqProofs only [push_cast, Nat.reduceEqDiff, Nat.reduceBEq, Nat.reduceBNe, Nat.reduceAdd, Nat.reduceMul, Nat.reduceLT, Nat.reduceLeDiff, Nat.reduceSub, reduceCtorEq, Int.reduceToNat, ↓reduceIte]))
  all_goals first
    | omega
    | (simp only [lenMax]; omega)
    | (have : xs = [] := List.eq_nil_of_length_eq_zero hx
       subst this
       rfl)
    | exact ints_c1 _ _ hx
theorem iClip_gives (xs : List Int) (h : Hp) : Gives Try.prog 103 [.slice (xs.map (.int .i64)) .no] h (.slice (xs.map (.int .i64)) .full) := by
  refine meets_of [] mixed Try.func103 rfl (by kernel_rfl) (by kernel_rfl) (by rw [Try.ntmps103]; simp only [List.length_cons, List.length_nil]; omega) (fun hf => ?_)
  rw [Try.results103]
  clear hf
  try simp -implicitDefEqProofs only [push_cast, Nat.reduceEqDiff, Nat.reduceBEq, Nat.reduceBNe, Nat.reduceAdd, Nat.reduceMul, Nat.reduceLT, Nat.reduceLeDiff, Nat.reduceSub, reduceCtorEq, Int.reduceToNat, ↓reduceIte]
  repeat'
    (first
     | (refine uYes ?_; first | exact List.mem_cons_self | (simp only [List.mem_cons, List.not_mem_nil, or_false, true_or, or_true]; done))
     | (refine uNo (by kernel_rfl))
     | (refine flatMk ?_; kernel_rfl)
     | (refine And.intro ?_ ?_)
     | (intro hx)
     | ((first
         | (refine callGF ?_)
         | (refine callQGF ?_)
         | (refine skipG ?_)
         | (refine callS (in_gives ..) ?_)
         | (refine callQ (in_gives ..) ?_)
         | (refine callG (fun hc => (in_gives ..)) ?_)
         | (refine callQG (fun hc => (in_gives ..)) ?_)); simp -implicitDefEqProofs only [push_cast, Nat.reduceEqDiff, Nat.reduceBEq, Nat.reduceBNe, Nat.reduceAdd, Nat.reduceMul, Nat.reduceLT, Nat.reduceLeDiff, Nat.reduceSub, reduceCtorEq, Int.reduceToNat, ↓reduceIte]))
  all_goals first
    | omega
theorem iclone_gives (xs : List Int) (h : Hp) : Gives Try.prog 91 [.slice (xs.map (.int .i64)) .no] h (.slice (xs.map (.int .i64)) .full) := by
  refine meets_of [] mixed Try.func91 rfl (by kernel_rfl) (by kernel_rfl) (by rw [Try.ntmps91]; simp only [List.length_cons, List.length_nil]; omega) (fun hf => ?_)
  rw [Try.results91]
  clear hf
  try simp -implicitDefEqProofs only [push_cast, Nat.reduceEqDiff, Nat.reduceBEq, Nat.reduceBNe, Nat.reduceAdd, Nat.reduceMul, Nat.reduceLT, Nat.reduceLeDiff, Nat.reduceSub, reduceCtorEq, Int.reduceToNat, ↓reduceIte]
  repeat'
    (first
     | (refine uYes ?_; first | exact List.mem_cons_self | (simp only [List.mem_cons, List.not_mem_nil, or_false, true_or, or_true]; done))
     | (refine uNo (by kernel_rfl))
     | (refine flatMk ?_; kernel_rfl)
     | (refine And.intro ?_ ?_)
     | (intro hx)
     | ((first
         | (refine callGF ?_)
         | (refine callQGF ?_)
         | (refine skipG ?_)
         | (refine callS (iClone_gives xs _) ?_)
         | (refine callQ (iClone_gives xs _) ?_)
         | (refine callG (fun hc => (iClone_gives xs _)) ?_)
         | (refine callQG (fun hc => (iClone_gives xs _)) ?_)
         | (refine callS (iClip_gives xs _) ?_)
         | (refine callQ (iClip_gives xs _) ?_)
         | (refine callG (fun hc => (iClip_gives xs _)) ?_)
         | (refine callQG (fun hc => (iClip_gives xs _)) ?_)); simp -implicitDefEqProofs only [push_cast, Nat.reduceEqDiff, Nat.reduceBEq, Nat.reduceBNe, Nat.reduceAdd, Nat.reduceMul, Nat.reduceLT, Nat.reduceLeDiff, Nat.reduceSub, reduceCtorEq, Int.reduceToNat, ↓reduceIte]))
  all_goals first
    | omega
theorem iCloneR (xs : List Int) (h : Hp) (hne : xs ≠ []) : Meets Try.prog 104 [.slice (xs.map (.int .i64)) .no] h fun d' h' => d' = .vec h.length false 1 0 xs.length xs.length ∧ h' = h ++ [.row (xs.map (.int .i64))] := by
  refine meets_of [7] mixed Try.func104 rfl (by kernel_rfl) (by kernel_rfl) (by rw [Try.ntmps104]; simp only [List.length_cons, List.length_nil]; omega) (fun hf => ?_)
  rw [Try.results104]
  have hl0 : xs.length ≠ 0 := fun e => hne (List.eq_nil_of_length_eq_zero e)
  have hl : xs.length ≤ 1073741824 := by simpa [fitsD, flen, lenMax] using hf
  clear hf
  try simp -implicitDefEqProofs only [push_cast, Nat.reduceEqDiff, Nat.reduceBEq, Nat.reduceBNe, Nat.reduceAdd, Nat.reduceMul, Nat.reduceLT, Nat.reduceLeDiff, Nat.reduceSub, reduceCtorEq, Int.reduceToNat, ↓reduceIte]
  repeat'
    (first
     | (refine uYes ?_; first | exact List.mem_cons_self | (simp only [List.mem_cons, List.not_mem_nil, or_false, true_or, or_true]; done))
     | (refine uNo (by kernel_rfl))
     | (refine flatMk ?_; kernel_rfl)
     | (refine And.intro ?_ ?_)
     | (intro hx)
     | ((first
         | (refine callGF ?_)
         | (refine callQGF ?_)
         | (refine skipG ?_)
         | (refine callS (in_gives ..) ?_)
         | (refine callQ (in_gives ..) ?_)
         | (refine callG (fun hc => (in_gives ..)) ?_)
         | (refine callQG (fun hc => (in_gives ..)) ?_)); simp -implicitDefEqProofs only [push_cast, Nat.reduceEqDiff, Nat.reduceBEq, Nat.reduceBNe, Nat.reduceAdd, Nat.reduceMul, Nat.reduceLT, Nat.reduceLeDiff, Nat.reduceSub, reduceCtorEq, Int.reduceToNat, ↓reduceIte]))
  all_goals first
    | omega
    | (simp only [lenMax]; omega)
    | (exfalso; omega)
    | exact ints_c1 _ _ hx
    | exact ints_cl _ _ _ hx
theorem iClipR (r n cp : Nat) (h : Hp) (hr : r < h.length) (hn : n ≤ cp) : Gives Try.prog 103 [.vec r false 1 0 n cp] h (.vec r false 1 0 n n) := by
  refine meets_of [] mixed Try.func103 rfl (by kernel_rfl) (by kernel_rfl) (by rw [Try.ntmps103]; simp only [List.length_cons, List.length_nil]; omega) (fun hf => ?_)
  rw [Try.results103]
  clear hf
  try simp -implicitDefEqProofs only [push_cast, Nat.reduceEqDiff, Nat.reduceBEq, Nat.reduceBNe, Nat.reduceAdd, Nat.reduceMul, Nat.reduceLT, Nat.reduceLeDiff, Nat.reduceSub, reduceCtorEq, Int.reduceToNat, ↓reduceIte]
  repeat'
    (first
     | (refine uYes ?_; first | exact List.mem_cons_self | (simp only [List.mem_cons, List.not_mem_nil, or_false, true_or, or_true]; done))
     | (refine uNo (by kernel_rfl))
     | (refine flatMk ?_; kernel_rfl)
     | (refine And.intro ?_ ?_)
     | (intro hx)
     | ((first
         | (refine callGF ?_)
         | (refine callQGF ?_)
         | (refine skipG ?_)
         | (refine callS (in_gives ..) ?_)
         | (refine callQ (in_gives ..) ?_)
         | (refine callG (fun hc => (in_gives ..)) ?_)
         | (refine callQG (fun hc => (in_gives ..)) ?_)); simp -implicitDefEqProofs only [push_cast, Nat.reduceEqDiff, Nat.reduceBEq, Nat.reduceBNe, Nat.reduceAdd, Nat.reduceMul, Nat.reduceLT, Nat.reduceLeDiff, Nat.reduceSub, reduceCtorEq, Int.reduceToNat, ↓reduceIte]))
  all_goals first
    | omega
theorem icloneR (xs : List Int) (h : Hp) {n : Nat} (hn : h.length = n) : Meets Try.prog 91 [.slice (xs.map (.int .i64)) .no] h fun d' h' => d' = .vec n false 1 0 xs.length xs.length ∧ h' = h ++ [.row (xs.map (.int .i64))] := by
  subst hn
  by_cases hx : xs = []
  · subst hx
    exact ghost (iclone_gives [] h) false 1
  · refine meets_of [] mixed Try.func91 rfl (by kernel_rfl) (by kernel_rfl) (by rw [Try.ntmps91]; simp only [List.length_cons, List.length_nil]; omega) (fun hf => ?_)
    rw [Try.results91]
    clear hf
    try simp -implicitDefEqProofs only [push_cast, Nat.reduceEqDiff, Nat.reduceBEq, Nat.reduceBNe, Nat.reduceAdd, Nat.reduceMul, Nat.reduceLT, Nat.reduceLeDiff, Nat.reduceSub, reduceCtorEq, Int.reduceToNat, ↓reduceIte]
    repeat'
      (first
       | (refine uYes ?_; first | exact List.mem_cons_self | (simp only [List.mem_cons, List.not_mem_nil, or_false, true_or, or_true]; done))
       | (refine uNo (by kernel_rfl))
       | (refine flatMk ?_; kernel_rfl)
       | (refine And.intro ?_ ?_)
       | (intro hx)
       | ((first
           | (refine callGF ?_)
           | (refine callQGF ?_)
           | (refine skipG ?_)
           | (refine callM (iCloneR xs _ hx) ?_)
           | (refine callS (iClipR _ _ _ _ (by simp -implicitDefEqProofs only [push_cast, Nat.reduceEqDiff, Nat.reduceBEq, Nat.reduceBNe, Nat.reduceAdd, Nat.reduceMul, Nat.reduceLT, Nat.reduceLeDiff, Nat.reduceSub, reduceCtorEq, Int.reduceToNat, ↓reduceIte]) (Nat.le_refl _)) ?_)
           | (refine callQ (iClipR _ _ _ _ (by simp -implicitDefEqProofs only [push_cast, Nat.reduceEqDiff, Nat.reduceBEq, Nat.reduceBNe, Nat.reduceAdd, Nat.reduceMul, Nat.reduceLT, Nat.reduceLeDiff, Nat.reduceSub, reduceCtorEq, Int.reduceToNat, ↓reduceIte]) (Nat.le_refl _)) ?_)
           | (refine callG (fun hc => (iClipR _ _ _ _ (by simp -implicitDefEqProofs only [push_cast, Nat.reduceEqDiff, Nat.reduceBEq, Nat.reduceBNe, Nat.reduceAdd, Nat.reduceMul, Nat.reduceLT, Nat.reduceLeDiff, Nat.reduceSub, reduceCtorEq, Int.reduceToNat, ↓reduceIte]) (Nat.le_refl _))) ?_)
           | (refine callQG (fun hc => (iClipR _ _ _ _ (by simp -implicitDefEqProofs only [push_cast, Nat.reduceEqDiff, Nat.reduceBEq, Nat.reduceBNe, Nat.reduceAdd, Nat.reduceMul, Nat.reduceLT, Nat.reduceLeDiff, Nat.reduceSub, reduceCtorEq, Int.reduceToNat, ↓reduceIte]) (Nat.le_refl _))) ?_)); simp -implicitDefEqProofs only [push_cast, Nat.reduceEqDiff, Nat.reduceBEq, Nat.reduceBNe, Nat.reduceAdd, Nat.reduceMul, Nat.reduceLT, Nat.reduceLeDiff, Nat.reduceSub, reduceCtorEq, Int.reduceToNat, ↓reduceIte]))
    all_goals first
      | omega
      | exact ints_cl _ _ _ hx

theorem hClone_gives (xs : List Hold) (h : Hp) : Gives Try.prog 106 [.slice (xs.map Hold.d) .no] h (.slice (xs.map Hold.d) .no) := by
  refine meets_of [] mixed Try.func106 rfl (by kernel_rfl) (by kernel_rfl) (by rw [Try.ntmps106]; simp only [List.length_cons, List.length_nil]; omega) (fun hf => ?_)
  rw [Try.results106]
  have hl : xs.length ≤ 1073741824 := by simpa [fitsD, flen, lenMax] using hf
  clear hf
  try simp -implicitDefEqProofs only [push_cast, Nat.reduceEqDiff, Nat.reduceBEq, Nat.reduceBNe, Nat.reduceAdd, Nat.reduceMul, Nat.reduceLT, Nat.reduceLeDiff, Nat.reduceSub, reduceCtorEq, Int.reduceToNat, ↓reduceIte]
  repeat'
    (first
     | (refine uYes ?_; first | exact List.mem_cons_self | (simp only [List.mem_cons, List.not_mem_nil, or_false, true_or, or_true]; done))
     | (refine uNo (by kernel_rfl))
     | (refine flatMk ?_; kernel_rfl)
     | (refine And.intro ?_ ?_)
     | (intro hx)
     | ((first
         | (refine callGF ?_)
         | (refine callQGF ?_)
         | (refine skipG ?_)
         | (refine callS (in_gives ..) ?_)
         | (refine callQ (in_gives ..) ?_)
         | (refine callG (fun hc => (in_gives ..)) ?_)
         | (refine callQG (fun hc => (in_gives ..)) ?_)); simp -implicitDefEqProofs only [push_cast, Nat.reduceEqDiff, Nat.reduceBEq, Nat.reduceBNe, Nat.reduceAdd, Nat.reduceMul, Nat.reduceLT, Nat.reduceLeDiff, Nat.reduceSub, reduceCtorEq, Int.reduceToNat, ↓reduceIte]))
  all_goals first
    | omega
    | (simp only [lenMax]; omega)
    | (have : xs = [] := List.eq_nil_of_length_eq_zero hx
       subst this
       rfl)
    | exact holds_c1 _ _ hx
theorem hClip_gives (xs : List Hold) (h : Hp) : Gives Try.prog 105 [.slice (xs.map Hold.d) .no] h (.slice (xs.map Hold.d) .full) := by
  refine meets_of [] mixed Try.func105 rfl (by kernel_rfl) (by kernel_rfl) (by rw [Try.ntmps105]; simp only [List.length_cons, List.length_nil]; omega) (fun hf => ?_)
  rw [Try.results105]
  clear hf
  try simp -implicitDefEqProofs only [push_cast, Nat.reduceEqDiff, Nat.reduceBEq, Nat.reduceBNe, Nat.reduceAdd, Nat.reduceMul, Nat.reduceLT, Nat.reduceLeDiff, Nat.reduceSub, reduceCtorEq, Int.reduceToNat, ↓reduceIte]
  repeat'
    (first
     | (refine uYes ?_; first | exact List.mem_cons_self | (simp only [List.mem_cons, List.not_mem_nil, or_false, true_or, or_true]; done))
     | (refine uNo (by kernel_rfl))
     | (refine flatMk ?_; kernel_rfl)
     | (refine And.intro ?_ ?_)
     | (intro hx)
     | ((first
         | (refine callGF ?_)
         | (refine callQGF ?_)
         | (refine skipG ?_)
         | (refine callS (in_gives ..) ?_)
         | (refine callQ (in_gives ..) ?_)
         | (refine callG (fun hc => (in_gives ..)) ?_)
         | (refine callQG (fun hc => (in_gives ..)) ?_)); simp -implicitDefEqProofs only [push_cast, Nat.reduceEqDiff, Nat.reduceBEq, Nat.reduceBNe, Nat.reduceAdd, Nat.reduceMul, Nat.reduceLT, Nat.reduceLeDiff, Nat.reduceSub, reduceCtorEq, Int.reduceToNat, ↓reduceIte]))
  all_goals first
    | omega
theorem hclone_gives (xs : List Hold) (h : Hp) : Gives Try.prog 92 [.slice (xs.map Hold.d) .no] h (.slice (xs.map Hold.d) .full) := by
  refine meets_of [] mixed Try.func92 rfl (by kernel_rfl) (by kernel_rfl) (by rw [Try.ntmps92]; simp only [List.length_cons, List.length_nil]; omega) (fun hf => ?_)
  rw [Try.results92]
  clear hf
  try simp -implicitDefEqProofs only [push_cast, Nat.reduceEqDiff, Nat.reduceBEq, Nat.reduceBNe, Nat.reduceAdd, Nat.reduceMul, Nat.reduceLT, Nat.reduceLeDiff, Nat.reduceSub, reduceCtorEq, Int.reduceToNat, ↓reduceIte]
  repeat'
    (first
     | (refine uYes ?_; first | exact List.mem_cons_self | (simp only [List.mem_cons, List.not_mem_nil, or_false, true_or, or_true]; done))
     | (refine uNo (by kernel_rfl))
     | (refine flatMk ?_; kernel_rfl)
     | (refine And.intro ?_ ?_)
     | (intro hx)
     | ((first
         | (refine callGF ?_)
         | (refine callQGF ?_)
         | (refine skipG ?_)
         | (refine callS (hClone_gives xs _) ?_)
         | (refine callQ (hClone_gives xs _) ?_)
         | (refine callG (fun hc => (hClone_gives xs _)) ?_)
         | (refine callQG (fun hc => (hClone_gives xs _)) ?_)
         | (refine callS (hClip_gives xs _) ?_)
         | (refine callQ (hClip_gives xs _) ?_)
         | (refine callG (fun hc => (hClip_gives xs _)) ?_)
         | (refine callQG (fun hc => (hClip_gives xs _)) ?_)); simp -implicitDefEqProofs only [push_cast, Nat.reduceEqDiff, Nat.reduceBEq, Nat.reduceBNe, Nat.reduceAdd, Nat.reduceMul, Nat.reduceLT, Nat.reduceLeDiff, Nat.reduceSub, reduceCtorEq, Int.reduceToNat, ↓reduceIte]))
  all_goals first
    | omega
theorem hCloneR (xs : List Hold) (h : Hp) (hne : xs ≠ []) : Meets Try.prog 106 [.slice (xs.map Hold.d) .no] h fun d' h' => d' = .vec h.length true 3 0 xs.length xs.length ∧ h' = h ++ [.row (xs.flatMap Hold.cs)] := by
  refine meets_of [7] mixed Try.func106 rfl (by kernel_rfl) (by kernel_rfl) (by rw [Try.ntmps106]; simp only [List.length_cons, List.length_nil]; omega) (fun hf => ?_)
  rw [Try.results106]
  have hl0 : xs.length ≠ 0 := fun e => hne (List.eq_nil_of_length_eq_zero e)
  have hl : xs.length ≤ 1073741824 := by simpa [fitsD, flen, lenMax] using hf
  clear hf
  try simp -implicitDefEqProofs only [push_cast, Nat.reduceEqDiff, Nat.reduceBEq, Nat.reduceBNe, Nat.reduceAdd, Nat.reduceMul, Nat.reduceLT, Nat.reduceLeDiff, Nat.reduceSub, reduceCtorEq, Int.reduceToNat, ↓reduceIte]
  repeat'
    (first
     | (refine uYes ?_; first | exact List.mem_cons_self | (simp only [List.mem_cons, List.not_mem_nil, or_false, true_or, or_true]; done))
     | (refine uNo (by kernel_rfl))
     | (refine flatMk ?_; kernel_rfl)
     | (refine And.intro ?_ ?_)
     | (intro hx)
     | ((first
         | (refine callGF ?_)
         | (refine callQGF ?_)
         | (refine skipG ?_)
         | (refine callS (in_gives ..) ?_)
         | (refine callQ (in_gives ..) ?_)
         | (refine callG (fun hc => (in_gives ..)) ?_)
         | (refine callQG (fun hc => (in_gives ..)) ?_)); simp -implicitDefEqProofs only [push_cast, Nat.reduceEqDiff, Nat.reduceBEq, Nat.reduceBNe, Nat.reduceAdd, Nat.reduceMul, Nat.reduceLT, Nat.reduceLeDiff, Nat.reduceSub, reduceCtorEq, Int.reduceToNat, ↓reduceIte]))
  all_goals first
    | omega
    | (simp only [lenMax]; omega)
    | (exfalso; omega)
    | exact holds_c1 _ _ hx
    | exact holds_cl _ _ _ hx
theorem hClipR (r n cp : Nat) (h : Hp) (hr : r < h.length) (hn : n ≤ cp) : Gives Try.prog 105 [.vec r true 3 0 n cp] h (.vec r true 3 0 n n) := by
  refine meets_of [] mixed Try.func105 rfl (by kernel_rfl) (by kernel_rfl) (by rw [Try.ntmps105]; simp only [List.length_cons, List.length_nil]; omega) (fun hf => ?_)
  rw [Try.results105]
  clear hf
  try simp -implicitDefEqProofs only [push_cast, Nat.reduceEqDiff, Nat.reduceBEq, Nat.reduceBNe, Nat.reduceAdd, Nat.reduceMul, Nat.reduceLT, Nat.reduceLeDiff, Nat.reduceSub, reduceCtorEq, Int.reduceToNat, ↓reduceIte]
  repeat'
    (first
     | (refine uYes ?_; first | exact List.mem_cons_self | (simp only [List.mem_cons, List.not_mem_nil, or_false, true_or, or_true]; done))
     | (refine uNo (by kernel_rfl))
     | (refine flatMk ?_; kernel_rfl)
     | (refine And.intro ?_ ?_)
     | (intro hx)
     | ((first
         | (refine callGF ?_)
         | (refine callQGF ?_)
         | (refine skipG ?_)
         | (refine callS (in_gives ..) ?_)
         | (refine callQ (in_gives ..) ?_)
         | (refine callG (fun hc => (in_gives ..)) ?_)
         | (refine callQG (fun hc => (in_gives ..)) ?_)); simp -implicitDefEqProofs only [push_cast, Nat.reduceEqDiff, Nat.reduceBEq, Nat.reduceBNe, Nat.reduceAdd, Nat.reduceMul, Nat.reduceLT, Nat.reduceLeDiff, Nat.reduceSub, reduceCtorEq, Int.reduceToNat, ↓reduceIte]))
  all_goals first
    | omega
theorem hcloneR (xs : List Hold) (h : Hp) {n : Nat} (hn : h.length = n) : Meets Try.prog 92 [.slice (xs.map Hold.d) .no] h fun d' h' => d' = .vec n true 3 0 xs.length xs.length ∧ h' = h ++ [.row (xs.flatMap Hold.cs)] := by
  subst hn
  by_cases hx : xs = []
  · subst hx
    exact ghost (hclone_gives [] h) true 3
  · refine meets_of [] mixed Try.func92 rfl (by kernel_rfl) (by kernel_rfl) (by rw [Try.ntmps92]; simp only [List.length_cons, List.length_nil]; omega) (fun hf => ?_)
    rw [Try.results92]
    clear hf
    try simp -implicitDefEqProofs only [push_cast, Nat.reduceEqDiff, Nat.reduceBEq, Nat.reduceBNe, Nat.reduceAdd, Nat.reduceMul, Nat.reduceLT, Nat.reduceLeDiff, Nat.reduceSub, reduceCtorEq, Int.reduceToNat, ↓reduceIte]
    repeat'
      (first
       | (refine uYes ?_; first | exact List.mem_cons_self | (simp only [List.mem_cons, List.not_mem_nil, or_false, true_or, or_true]; done))
       | (refine uNo (by kernel_rfl))
       | (refine flatMk ?_; kernel_rfl)
       | (refine And.intro ?_ ?_)
       | (intro hx)
       | ((first
           | (refine callGF ?_)
           | (refine callQGF ?_)
           | (refine skipG ?_)
           | (refine callM (hCloneR xs _ hx) ?_)
           | (refine callS (hClipR _ _ _ _ (by simp -implicitDefEqProofs only [push_cast, Nat.reduceEqDiff, Nat.reduceBEq, Nat.reduceBNe, Nat.reduceAdd, Nat.reduceMul, Nat.reduceLT, Nat.reduceLeDiff, Nat.reduceSub, reduceCtorEq, Int.reduceToNat, ↓reduceIte]) (Nat.le_refl _)) ?_)
           | (refine callQ (hClipR _ _ _ _ (by simp -implicitDefEqProofs only [push_cast, Nat.reduceEqDiff, Nat.reduceBEq, Nat.reduceBNe, Nat.reduceAdd, Nat.reduceMul, Nat.reduceLT, Nat.reduceLeDiff, Nat.reduceSub, reduceCtorEq, Int.reduceToNat, ↓reduceIte]) (Nat.le_refl _)) ?_)
           | (refine callG (fun hc => (hClipR _ _ _ _ (by simp -implicitDefEqProofs only [push_cast, Nat.reduceEqDiff, Nat.reduceBEq, Nat.reduceBNe, Nat.reduceAdd, Nat.reduceMul, Nat.reduceLT, Nat.reduceLeDiff, Nat.reduceSub, reduceCtorEq, Int.reduceToNat, ↓reduceIte]) (Nat.le_refl _))) ?_)
           | (refine callQG (fun hc => (hClipR _ _ _ _ (by simp -implicitDefEqProofs only [push_cast, Nat.reduceEqDiff, Nat.reduceBEq, Nat.reduceBNe, Nat.reduceAdd, Nat.reduceMul, Nat.reduceLT, Nat.reduceLeDiff, Nat.reduceSub, reduceCtorEq, Int.reduceToNat, ↓reduceIte]) (Nat.le_refl _))) ?_)); simp -implicitDefEqProofs only [push_cast, Nat.reduceEqDiff, Nat.reduceBEq, Nat.reduceBNe, Nat.reduceAdd, Nat.reduceMul, Nat.reduceLT, Nat.reduceLeDiff, Nat.reduceSub, reduceCtorEq, Int.reduceToNat, ↓reduceIte]))
    all_goals first
      | omega
      | exact holds_cl _ _ _ hx

end Go.Proofs.Ytcmpcpigchlhpaa

namespace Go.Proofs.Ytcmpcpigchlhpaa
set_option linter.unusedSectionVars false
open Go.Av
variable [Av.Start]
set_option maxRecDepth 10000
set_option linter.unusedSimpArgs false
set_option linter.unusedVariables false

/-- a leg whose slices are rows of its own, from object r on -/
def Leg.dvc (l : Leg) (r : Nat) : List D := [.str l.name, .str l.src, .str l.dst, .int .i64 l.dep, .int .i64 l.arr, .int .i64 l.cap, .vec r false 1 0 l.limits.length l.limits.length, .vec (r + 1) false 1 0 l.sold.length l.sold.length, .vec (r + 2) false 1 0 l.bids.length l.bids.length, .vec (r + 3) true 3 0 l.holds.length l.holds.length]
def Leg.dv (l : Leg) (r : Nat) : D := .agg (l.dvc r)
def Leg.rows (l : Leg) : Hp := [.row (l.limits.map (.int .i64)), .row (l.sold.map (.int .i64)), .row (l.bids.map (.int .i64)), .row (l.holds.flatMap Hold.cs)]
omit [Av.Start] in
theorem Leg.rows_len (l : Leg) : l.rows.length = 4 := rfl
omit [Av.Start] in
theorem fw_refl (n : Nat) (h : Hp) (d : D) : FW n h d d := ⟨d, .refl d, .refl d⟩
attribute [push_cast] Leg.rows_len
omit [Av.Start] in
theorem Leg.dvc_cl (l : Leg) {r n : Nat} (h : r + 4 ≤ n) : ∀ d, d ∈ l.dvc r → Cl n d := by
  simp only [Leg.dvc, List.mem_cons, List.not_mem_nil, or_false, forall_eq_or_imp, forall_eq, cl_int, cl_str, cl_vec, true_and]
  omega
omit [Av.Start] in
theorem Leg.dvc_nm (l : Leg) {r n : Nat} (h : n ≤ r) : ∀ d, d ∈ l.dvc r → NM n d := by
  simp only [Leg.dvc, List.mem_cons, List.not_mem_nil, or_false, forall_eq_or_imp, forall_eq, nm_int, nm_str, nm_vec, true_and]
  omega
omit [Av.Start] in
theorem Leg.dvc_ren (l : Leg) {n k r : Nat} (h : n ≤ r) : ∀ j (h1 : j < (l.dvc (r + k)).length) (h2 : j < (l.dvc r).length), Ren n k ((l.dvc (r + k))[j]) ((l.dvc r)[j]) := by
  intro j h1 h2
  have hv : ∀ (i : Nat) ag sz len cp, Ren n k (.vec (r + k + i) ag sz 0 len cp) (.vec (r + i) ag sz 0 len cp) := fun i ag sz len cp => by
    have := Ren.vec (n := n) (k := k) (r + i) ag sz 0 len cp (by omega)
    rwa [show r + i + k = r + k + i by omega] at this
  match j, h2 with
  | 0, _ => exact .str _
  | 1, _ => exact .str _
  | 2, _ => exact .str _
  | 3, _ => exact .int _ _
  | 4, _ => exact .int _ _
  | 5, _ => exact .int _ _
  | 6, _ => exact hv 0 _ _ _ _
  | 7, _ => exact hv 1 _ _ _ _
  | 8, _ => exact hv 2 _ _ _ _
  | 9, _ => exact hv 3 _ _ _ _
omit [Av.Start] in
theorem Leg.dv_ren (l : Leg) {n k r : Nat} (h : n ≤ r) : Ren n k (l.dv (r + k)) (l.dv r) := .agg _ _ rfl (l.dvc_ren h)
omit [Av.Start] in
theorem ints_ren (xs : List Int) (n k : Nat) : RenOb n k (.row (xs.map (D.int .i64))) (.row (xs.map (D.int .i64))) := .row _ _ rfl (fun j h1 h2 => by
  simp only [List.getElem_map]; exact .int _ _)
omit [Av.Start] in
theorem holds_ren (xs : List Hold) (n k : Nat) : RenOb n k (.row (xs.flatMap Hold.cs)) (.row (xs.flatMap Hold.cs)) := .row _ _ rfl (fun j h1 h2 => by
  have := List.getElem_mem h1
  obtain ⟨x, _, hd⟩ := List.mem_flatMap.1 this
  simp only [Hold.cs, List.mem_cons, List.not_mem_nil, or_false] at hd
  rcases hd with e | e | e <;> rw [e] <;> exact .int _ _)
omit [Av.Start] in
theorem Leg.rows_ren (l : Leg) (n k : Nat) : ∀ j (h1 : j < l.rows.length) (h2 : j < l.rows.length), RenOb n k (l.rows[j]) (l.rows[j]) := by
  intro j h1 h2
  match j, h2 with
  | 0, _ => exact ints_ren _ _ _
  | 1, _ => exact ints_ren _ _ _
  | 2, _ => exact ints_ren _ _ _
  | 3, _ => exact holds_ren _ _ _
omit [Av.Start] in
theorem Leg.rows_nm (l : Leg) (n : Nat) : ∀ x, x ∈ l.rows → NMob n x := by
  have hi : ∀ xs : List Int, NMob n (.row (xs.map (D.int .i64))) := fun xs c hc => by
    obtain ⟨x, _, rfl⟩ := List.mem_map.1 hc
    exact .int _ _
  have hh : NMob n (.row (l.holds.flatMap Hold.cs)) := fun c hc => by
    obtain ⟨x, _, hd⟩ := List.mem_flatMap.1 hc
    simp only [Hold.cs, List.mem_cons, List.not_mem_nil, or_false] at hd
    rcases hd with rfl | rfl | rfl <;> exact .int _ _
  simp only [Leg.rows, List.mem_cons, List.not_mem_nil, or_false, forall_eq_or_imp, forall_eq, hi, hh, and_self]
omit [Av.Start] in
theorem Leg.rows_cl (l : Leg) (n : Nat) : ∀ x, x ∈ l.rows → ObCl n x := by
  simp only [Leg.rows, List.mem_cons, List.not_mem_nil, or_false, forall_eq_or_imp, forall_eq]
  exact ⟨ints_cl _ _, ints_cl _ _, ints_cl _ _, holds_cl _ _⟩
omit [Av.Start] in
theorem old_ob (h : Hp) : ∀ (r : Nat) x, h[r]? = some x → h[r]? = some x ∨ ObCl h.length x := fun _ _ e => .inl e

theorem copyOfR (l : Leg) (h : Hp) : Meets Try.prog 72 [l.d] h fun d' h' => d' = l.dv h.length ∧ h' = h ++ l.rows := by
  refine Meets.compact (hb := h) (junk := [.row (l.dvc (h.length + 2)), .row (l.dvc (h.length + 2))]) (rows1 := l.rows) rfl (old_ob h) (l.dv_ren (Nat.le_refl _)) rfl (l.rows_ren _ _) ?_
  refine meets_of [] mixed Try.func72 rfl (by kernel_rfl) (by kernel_rfl) (by rw [Try.ntmps72]; simp only [List.length_cons, List.length_nil]; omega) (fun hf => ?_)
  rw [Try.results72]
  clear hf
  try simp -implicitDefEqProofs only [push_cast, Nat.reduceEqDiff, Nat.reduceBEq, Nat.reduceBNe, Nat.reduceAdd, Nat.reduceMul, Nat.reduceLT, Nat.reduceLeDiff, Nat.reduceSub, reduceCtorEq, Int.reduceToNat, ↓reduceIte]
  repeat'
    (first
     | (refine uYes ?_; first | exact List.mem_cons_self | (simp only [List.mem_cons, List.not_mem_nil, or_false, true_or, or_true]; done))
     | (refine uNo (by kernel_rfl))
     | (refine flatMk ?_; kernel_rfl)
     | (refine And.intro ?_ ?_)
     | (intro hx)
     | ((first
         | (refine inX_mk [] (by kernel_rfl) (by simp) ?_)
         | (refine callGF ?_)
         | (refine callQGF ?_)
         | (refine skipG ?_)
         | (refine callM (icloneR _ _ rfl) ?_)
         | (refine callX (by kernel_rfl) (fun _ hl => (icloneR _ _ hl)) ?_)
         | (refine callM (hcloneR _ _ rfl) ?_)
         | (refine callX (by kernel_rfl) (fun _ hl => (hcloneR _ _ hl)) ?_)); simp -implicitDefEqProofs only [push_cast, Nat.reduceEqDiff, Nat.reduceBEq, Nat.reduceBNe, Nat.reduceAdd, Nat.reduceMul, Nat.reduceLT, Nat.reduceLeDiff, Nat.reduceSub, reduceCtorEq, Int.reduceToNat, ↓reduceIte]))
  all_goals first
    | omega
    | exact fw_refl _ _ _
    | exact .agg _ (l.dvc_cl (by omega))
    | rfl
    | exact l.dvc_cl (by omega) _ hx
    | exact l.rows_cl _ _ hx
end Go.Proofs.Ytcmpcpigchlhpaa

namespace Go.Proofs.Ytcmpcpigchlhpaa
set_option linter.unusedSectionVars false
open Go.Av
variable [Av.Start]
set_option maxRecDepth 10000
set_option linter.unusedSimpArgs false
set_option linter.unusedVariables false

def heldIdx (l : Leg) (n : Int) : Int := idxV (fun o => decide (o.txn = n)) l.holds
omit [Av.Start] in
theorem take_mid {A L z : List D} {n : Nat} (hA : A.length = n) (hL : L.length ≤ 3) : (A ++ L).take n ++ (z ++ (A ++ L).drop (n + 3)) = A ++ z := by
  rw [List.take_append_of_le_length (by omega), List.take_of_length_le (by omega), List.drop_eq_nil_of_le (by rw [List.length_append]; omega), List.append_nil]

end Go.Proofs.Ytcmpcpigchlhpaa

namespace Go.Proofs.Ytcmpcpigchlhpaa
set_option linter.unusedSectionVars false
open Go.Av
variable [Av.Start]
set_option maxRecDepth 10000
set_option linter.unusedSimpArgs false
set_option linter.unusedVariables false

omit [Av.Start] in
theorem fwl_of {n : Nat} {h : Hp} : ∀ {cs cs' : List D}, cs'.length = cs.length → (∀ j (h1 : j < cs.length) (h2 : j < cs'.length), FW n h (cs[j]) (cs'[j])) → FWL n h cs cs'
  | [], [], _, _ => trivial
  | [], _ :: _, hl, _ => absurd hl (by simp)
  | _ :: _, [], hl, _ => absurd hl (by simp)
  | a :: cs, b :: bs, hl, H => ⟨H 0 (by simp) (by simp), fwl_of (by simpa using hl) (fun j h1 h2 => H (j + 1) (by simpa using h1) (by simpa using h2))⟩
omit [Av.Start] in
/-- a row seen as the slice of its first elements -/
theorem fw_row {α : Type} {g : α → D} {f : α → List D} {ag : Bool} {m : Nat} (hm : 0 < m) (hf : ∀ x, (g x).cells = f x) (hl : ∀ x, (f x).length = m) (hg : ∀ x, (if ag then D.agg (f x) else (f x).headD .junk) = g x) (h1 : ag = false → m = 1 ∧ ∀ x d, d ∈ f x → d.cells = [d]) (hc : ∀ x d, d ∈ f x → Cl 0 d)
    {n : Nat} {h : Hp} {r : Nat} {xs : List α} {rest : List D} {k cp : Nat} (hn : n ≤ r) (hr : ob h r = .row (xs.flatMap f ++ rest)) (hk : k = xs.length) : FW n h (.vec r ag m 0 k cp) (.slice (xs.map g) .no) := by
  subst hk
  have hlen : (xs.flatMap f).length = xs.length * m := flatMap_length hl xs
  have hp : rowPart h r m 0 xs.length = xs.flatMap f := by
    simp only [rowPart, hr, rowOf, Nat.zero_mul, List.drop_zero]
    rw [List.take_append_of_le_length (by omega), List.take_of_length_le (by omega)]
  refine (fw_vec _ _ _ _ _ _ _ _ _).2 ⟨⟨hn, by rw [hr]; trivial, ?_, ?_, hm, fun e => ⟨(h1 e).1, ?_⟩⟩, ?_⟩
  · rw [hr, Nat.zero_add]
    simp only [rowOf, List.length_append, hlen]
    omega
  · rw [hp]
    intro d hd
    obtain ⟨x, _, hd⟩ := List.mem_flatMap.1 hd
    exact hc x d hd
  · rw [hp]
    intro d hd
    obtain ⟨x, _, hd⟩ := List.mem_flatMap.1 hd
    exact (h1 e).2 x d hd
  · rw [hp]
    have := chunk_map (g := g) (ag := ag) (m := m) hm (fun x => by rw [hf]; exact hg x) (fun x => by rw [hf]; exact hl x) xs _ rfl
    simpa only [hf] using this
omit [Av.Start] in
theorem fw_ints {n : Nat} {h : Hp} {r : Nat} {xs : List Int} {k cp : Nat} (hn : n ≤ r) (hr : ob h r = .row (xs.map (.int .i64))) (hk : k = xs.length) : FW n h (.vec r false 1 0 k cp) (.slice (xs.map (.int .i64)) .no) := by
  refine fw_row (ag := false) (m := 1) (g := D.int .i64) (f := fun x => [D.int .i64 x]) (rest := []) (by omega) (fun _ => rfl) (fun _ => rfl) (fun _ => rfl) (fun _ => ⟨rfl, fun x d hd => ?_⟩) (fun x d hd => ?_) hn ?_ hk
  · rw [List.mem_singleton.1 hd]; rfl
  · rw [List.mem_singleton.1 hd]; exact .int _ _
  · rw [hr, List.append_nil, List.map_eq_flatMap]
omit [Av.Start] in
theorem fw_holds {n : Nat} {h : Hp} {r : Nat} {xs : List Hold} {rest : List D} {k cp : Nat} (hn : n ≤ r) (hr : ob h r = .row (xs.flatMap Hold.cs ++ rest)) (hk : k = xs.length) : FW n h (.vec r true 3 0 k cp) (.slice (xs.map Hold.d) .no) := by
  refine fw_row (ag := true) (m := 3) (g := Hold.d) (f := Hold.cs) (by omega) (fun _ => rfl) (fun _ => rfl) (fun _ => rfl) (fun e => nomatch e) (fun x d hd => ?_) hn hr hk
  simp only [Hold.cs, List.mem_cons, List.not_mem_nil, or_false] at hd
  rcases hd with rfl | rfl | rfl <;> exact .int _ _

/-- a leg in row r, its slices in the rows from q on -/
structure LegAt (h : Hp) (q : Nat) (l : Leg) : Prop where
  limits : ob h q = .row (l.limits.map (.int .i64))
  sold : ob h (q + 1) = .row (l.sold.map (.int .i64))
  bids : ob h (q + 2) = .row (l.bids.map (.int .i64))
  holds : ob h (q + 3) = .row (l.holds.flatMap Hold.cs)
  lt : q + 3 < h.length
omit [Av.Start] in
theorem LegAt.fw {h : Hp} {q : Nat} {l : Leg} (H : LegAt h q l) : FW 0 h (.agg (l.dvc q)) l.d :=
  (fw_agg _ _ _ _).2 ⟨fw_refl _ _ _, fw_refl _ _ _, fw_refl _ _ _, fw_refl _ _ _, fw_refl _ _ _, fw_refl _ _ _, fw_ints (Nat.zero_le _) H.limits rfl, fw_ints (Nat.zero_le _) H.sold rfl, fw_ints (Nat.zero_le _) H.bids rfl, fw_holds (rest := []) (Nat.zero_le _) (by rw [List.append_nil]; exact H.holds) rfl, trivial⟩
omit [Av.Start] in
theorem Leg.cl0 (l : Leg) (n : Nat) : Cl n l.d := .agg _ (l.cl n)

omit [Av.Start] in
theorem holds_nm (xs : List Hold) (n : Nat) : ∀ x, x ∈ [Ob.row (xs.flatMap Hold.cs)] → NMob n x := by
  intro x hx
  rw [List.mem_singleton.1 hx]
  intro c hc
  obtain ⟨x, _, hd⟩ := List.mem_flatMap.1 hc
  simp only [Hold.cs, List.mem_cons, List.not_mem_nil, or_false] at hd
  rcases hd with rfl | rfl | rfl <;> exact .int _ _
/-- what is left of a leg in which what is held for a transaction is settled -/
def soldV (l : Leg) (k : Nat) (keep : Bool) : List Int := if keep then l.sold.set (l.holds.getD k default).cls.toNat (IntKind.i64.wrap (l.sold.getD (l.holds.getD k default).cls.toNat 0 + (l.holds.getD k default).seats)) else l.sold
omit [Av.Start] in
theorem old_set {h hb : Hp} {N : Nat} (H : ∀ (k : Nat) y, hb[k]? = some y → h[k]? = some y ∨ ObCl N y) (a : Nat) {x : Ob} (hx : ObCl N x) : ∀ (k : Nat) y, (hb.set a x)[k]? = some y → h[k]? = some y ∨ ObCl N y := by
  intro k y hy
  rw [List.getElem?_set] at hy
  split at hy
  · split at hy
    · cases hy; exact .inr hx
    · cases hy
  · exact H k y hy
omit [Av.Start] in
theorem back_mod {h hb rows : Hp} (hl : hb.length = h.length) (H : ∀ (k : Nat) y, hb[k]? = some y → h[k]? = some y ∨ ObCl (h.length + rows.length) y) (hr : ∀ x, x ∈ rows → ObCl (h.length + rows.length) x) : Back h (hb ++ rows) (hb ++ rows) := by
  refine ⟨by simp; omega, Nat.le_refl _, List.take_length, fun k x hx => ?_⟩
  rw [List.length_append, hl]
  by_cases hk : k < hb.length
  · rw [List.getElem?_append_left hk] at hx
    exact H k x hx
  · rw [List.getElem?_append_right (by omega)] at hx
    exact .inr (hr x (List.mem_of_getElem? hx))
omit [Av.Start] in
theorem old_id (h : Hp) (N : Nat) : ∀ (k : Nat) y, h[k]? = some y → h[k]? = some y ∨ ObCl N y := fun _ _ e => .inl e
omit [Av.Start] in
theorem ob_set_eq {h : Hp} {r : Nat} (hr : r < h.length) (x : Ob) : ob (h.set r x) r = x := by simp [ob, List.getD_eq_getElem?_getD, hr]
omit [Av.Start] in
theorem ob_set_ne {h : Hp} {r s : Nat} (hr : s ≠ r) (x : Ob) : ob (h.set s x) r = ob h r := by simp only [ob, List.getD_eq_getElem?_getD, List.getElem?_set_ne hr]
omit [Av.Start] in
theorem ob_app_l {h : Hp} {r : Nat} (hr : r < h.length) (ls : Hp) : ob (h ++ ls) r = ob h r := by simp only [ob, List.getD_eq_getElem?_getD, List.getElem?_append_left hr]

omit [Av.Start] in
theorem hold_part (xs : List Hold) {k : Nat} (hk : k < xs.length) : ((xs.flatMap Hold.cs).drop (k * 3)).take 3 = (xs.getD k default).cs := by
  have hlk : ((xs.take k).flatMap Hold.cs).length = k * 3 := by rw [flatMap_length (f := Hold.cs) (m := 3) (fun _ => rfl), List.length_take]; congr 1; omega
  have hs : xs.flatMap Hold.cs = (xs.take k).flatMap Hold.cs ++ (xs[k].cs ++ (xs.drop (k + 1)).flatMap Hold.cs) := by
    conv => lhs; rw [← List.take_append_drop k xs, List.drop_eq_getElem_cons hk]
    rw [List.flatMap_append, List.flatMap_cons]
  rw [hs, List.drop_append, List.drop_eq_nil_of_le (by omega), List.nil_append, hlk, Nat.sub_self, List.drop_zero, List.take_append_of_le_length (by exact Nat.le_refl _), List.take_of_length_le (by exact Nat.le_refl _), List.getD_eq_getElem?_getD, List.getElem?_eq_getElem hk]
  rfl
omit [Av.Start] in
theorem int_part (xs : List Int) {k : Nat} (hk : k < xs.length) : ((xs.drop k).map (D.int .i64)).headD .junk = .int .i64 (xs.getD k 0) := by
  rw [List.drop_eq_getElem_cons hk]
  simp [List.getD_eq_getElem?_getD, List.getElem?_eq_getElem hk]
omit [Av.Start] in
theorem int_splice (xs : List Int) {k : Nat} (hk : k < xs.length) (n : Int) : (xs.take k).map (D.int .i64) ++ D.int .i64 n :: (xs.drop (k + 1)).map (D.int .i64) = (xs.set k n).map (D.int .i64) := by
  rw [← List.map_cons, ← List.map_append, List.set_eq_take_append_cons_drop, if_pos hk]

omit [Av.Start] in
theorem cl_ints (xs : List Int) (n : Nat) : ObCl n (.row (xs.map (.int .i64))) := by
  intro c hc
  obtain ⟨x, _, rfl⟩ := List.mem_map.1 hc
  exact .int _ _
omit [Av.Start] in
theorem cl_holds (xs : List Hold) (n : Nat) : ObCl n (.row (xs.flatMap Hold.cs)) := by
  intro c hc
  obtain ⟨x, _, hd⟩ := List.mem_flatMap.1 hc
  simp only [Hold.cs, List.mem_cons, List.not_mem_nil, or_false] at hd
  rcases hd with rfl | rfl | rfl <;> exact .int _ _
omit [Av.Start] in
theorem cl_holds' (xs : List Hold) (n : Nat) (a b c : Int) : ObCl n (.row (xs.flatMap Hold.cs ++ [.int .i64 a, .int .i64 b, .int .i64 c])) := by
  intro d hd
  rcases List.mem_append.1 hd with hd | hd
  · exact cl_holds xs n d hd
  · simp only [List.mem_cons, List.not_mem_nil, or_false] at hd
    rcases hd with rfl | rfl | rfl <;> exact .int _ _
omit [Av.Start] in
theorem cl_leg {n : Nat} (l : Leg) {a b c d : Nat} {x1 x2 y1 y2 z1 z2 w1 w2 : Nat} (ha : a < n) (hb : b < n) (hc : c < n) (hd : d < n) : ObCl n (.row [.str l.name, .str l.src, .str l.dst, .int .i64 l.dep, .int .i64 l.arr, .int .i64 l.cap, .vec a false 1 0 x1 x2, .vec b false 1 0 y1 y2, .vec c false 1 0 z1 z2, .vec d true 3 0 w1 w2]) := by
  intro e he
  simp only [List.mem_cons, List.not_mem_nil, or_false] at he
  rcases he with rfl | rfl | rfl | rfl | rfl | rfl | rfl | rfl | rfl | rfl
  · exact .str _
  · exact .str _
  · exact .str _
  · exact .int _ _
  · exact .int _ _
  · exact .int _ _
  · exact .vec _ _ _ _ _ _ ha
  · exact .vec _ _ _ _ _ _ hb
  · exact .vec _ _ _ _ _ _ hc
  · exact .vec _ _ _ _ _ _ hd
omit [Av.Start] in
theorem back_drop {h h0 : Hp} {r q k : Nat} {l : Leg} {rw : List D} (hd : Hold) (xs : List Hold) (hrw : ObCl (h.length + 2) (.row rw)) (h0l : h0.length = h.length) (h00 : ∀ (k : Nat) y, h0[k]? = some y → h[k]? = some y ∨ ObCl (h.length + 2) y) :
    Back h (((h0.set (q + 3) (.row (xs.flatMap Hold.cs ++ [.int .i64 0, .int .i64 0, .int .i64 0]))).set r (.row rw)) ++ [.row hd.cs, .row (xs.flatMap Hold.cs)]) (((h0.set (q + 3) (.row (xs.flatMap Hold.cs ++ [.int .i64 0, .int .i64 0, .int .i64 0]))).set r (.row rw)) ++ [.row hd.cs, .row (xs.flatMap Hold.cs)]) := by
  refine back_mod (by simp [h0l]) (old_set (old_set h00 _ (cl_holds' _ _ _ _ _)) _ hrw) fun x hx => ?_
  simp only [List.mem_cons, List.not_mem_nil, or_false] at hx
  rcases hx with rfl | rfl
  · intro c hc
    simp only [Hold.cs, List.mem_cons, List.not_mem_nil, or_false] at hc
    rcases hc with rfl | rfl | rfl <;> exact .int _ _
  · exact cl_holds _ _

omit [Av.Start] in
theorem ob_some {h : Hp} {r : Nat} {cs : List D} (e : ob h r = .row cs) : h[r]? = some (.row cs) := by
  rw [ob, List.getD_eq_getElem?_getD] at e
  cases he : h[r]? with
  | none => rw [he] at e; cases e
  | some x => rw [he] at e; exact congrArg some e
omit [Av.Start] in
theorem ob_of {h : Hp} {r : Nat} {x : Ob} (e : h[r]? = some x) : ob h r = x := by rw [ob, List.getD_eq_getElem?_getD, e]; rfl
omit [Av.Start] in
theorem LegAt.app {h : Hp} {q : Nat} {l : Leg} (H : LegAt h q l) (ls : Hp) : LegAt (h ++ ls) q l := by
  have hl := H.lt
  exact ⟨(ob_app_l (by omega) ls).trans H.limits, (ob_app_l (by omega) ls).trans H.sold, (ob_app_l (by omega) ls).trans H.bids, (ob_app_l (by omega) ls).trans H.holds, by rw [List.length_append]; omega⟩
end Go.Proofs.Ytcmpcpigchlhpaa
