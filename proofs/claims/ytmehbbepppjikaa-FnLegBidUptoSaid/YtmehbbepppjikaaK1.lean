/- Contracts of functions of the program (K1). -/
import Derived.Test.YtmehbbepppjikaaC12

namespace Go.Proofs.Ytmehbbepppjikaa
open Go.Av
set_option maxRecDepth 10000
set_option linter.unusedSimpArgs false
set_option linter.unusedVariables false

theorem flat_ints (k : IntKind) (xs : List Int) : flat (xs.map (D.int k)) = xs.map (D.int k) := by
  rw [flat, List.flatMap_map]
  induction xs with
  | nil => rfl
  | cons x xs ih => rw [List.flatMap_cons, ih]; rfl
theorem flat_holds (xs : List Hold) : flat (xs.map Hold.d) = xs.flatMap Hold.cs := by
  rw [flat, List.flatMap_map]
  rfl
attribute [push_cast] flat_ints flat_holds
theorem ints_c1 (xs : List Int) : ∀ d, d ∈ xs.map (D.int .i64) → cell1 d := by
  intro d hd
  obtain ⟨x, _, rfl⟩ := List.mem_map.1 hd
  trivial
theorem holds_c1 (xs : List Hold) : ∀ d, d ∈ xs.flatMap Hold.cs → cell1 d := by
  intro d hd
  obtain ⟨x, _, hd⟩ := List.mem_flatMap.1 hd
  simp only [Hold.cs, List.mem_cons, List.not_mem_nil, or_false] at hd
  rcases hd with rfl | rfl | rfl <;> trivial
theorem ints_cl (xs : List Int) (n : Nat) : ∀ d, d ∈ xs.map (D.int .i64) → Cl n d := by
  intro d hd
  obtain ⟨x, _, rfl⟩ := List.mem_map.1 hd
  exact .int _ _
theorem holds_cl (xs : List Hold) (n : Nat) : ∀ d, d ∈ xs.flatMap Hold.cs → Cl n d := by
  intro d hd
  obtain ⟨x, _, hd⟩ := List.mem_flatMap.1 hd
  simp only [Hold.cs, List.mem_cons, List.not_mem_nil, or_false] at hd
  rcases hd with rfl | rfl | rfl <;> exact .int _ _
theorem callM {P : Program} {mu : List Nat} {ops rest : List Oper} {dst : Option Tmp} {fr : Fr} {h : Hp} {K : St → Prop} {f : FuncId} {ys : List D} {d : D} {hh : Hp} (c : Meets P f ys h fun d' h' => d' = d ∧ h' = hh) (k : evOps P mu ops rest ⟨putO fr dst d, hh⟩ K) : CallSt P mu ops rest dst fr h K f ys :=
  call_meets c (wkL_same ys) (fun d' h' ⟨e1, e2⟩ => by subst e1 e2; exact k)
/-- An empty slice is an empty row. -/
theorem ghost {P : Program} {f : FuncId} {args : List D} {h : Hp} (H : Gives P f args h (.slice [] .full)) (ag : Bool) (sz : Nat) : Meets P f args h fun d' h' => d' = .vec h.length ag sz 0 0 0 ∧ h' = h ++ [.row []] := by
  refine ⟨H.1, fun w σ vs hi hr => (H.2 w σ vs hi hr).mono ?_⟩
  rintro e w' ⟨v, he, d, h', σ', ⟨rfl, rfl⟩, hi', hd, hst⟩
  obtain ⟨g1, g2⟩ := inv_add hi' (Adds.refl w') none (.row []) (fun b e => by cases e) (fun cs e _ => by cases e; exact ⟨.inl rfl⟩)
  refine ⟨v, he, _, _, _, ⟨rfl, rfl⟩, g1, ?_, hst.trans g2⟩
  cases hd with
  | slice _ _ a cap vs hlen hcap hfull htok hc hr => exact .vec h'.length ag sz 0 0 0 a cap (Nat.zero_le _) ⟨Nat.le_refl _, Nat.zero_le _⟩ (by simp) (fun k hk => by rw [List.getElem?_append_right (Nat.le_refl _)] at hk; simp at hk) (.inl hfull)

theorem iClone_gives (xs : List Int) (h : Hp) : Gives Try.prog 143 [.slice (xs.map (.int .i64)) .no] h (.slice (xs.map (.int .i64)) .no) := by
  refine meets_of [] mixed Try.func143 rfl (by kernel_rfl) (by kernel_rfl) (by rw [Try.ntmps143]; simp only [List.length_cons, List.length_nil]; omega) (fun hf => ?_)
  rw [Try.results143]
  have hl : xs.length ≤ 1073741824 := by simpa [fitsD, flen, lenMax] using hf
  clear hf
  try simp -implicitDefEqProofs only [push_cast, Nat.reduceEqDiff, Nat.reduceBEq, Nat.reduceBNe, Nat.reduceAdd, Nat.reduceMul, Nat.reduceLT, Nat.reduceLeDiff, Nat.reduceSub, reduceCtorEq, Int.reduceToNat, ↓reduceIte]
  repeat'
    (first
     | (refine uYes ?_; first | exact List.mem_cons_self | (simp only [List.mem_cons, List.not_mem_nil, or_false, true_or, or_true]; done))
     | (refine uNo (by kernel_rfl))
     | (refine flatMk ?_; kernel_rfl)
     | (refine And.intro ?_ ?_)
     | (intro hx)
     | ((first
         | (refine callGF ?_)
         | (refine callQGF ?_)
         | (refine skipG ?_)
         | (refine callS (in_gives ..) ?_)
         | (refine callQ (in_gives ..) ?_)
         | (refine callG (fun hc => (in_gives ..)) ?_)
         | (refine callQG (fun hc => (in_gives ..)) ?_)); simp -implicitDefEqProofs only [push_cast, Nat.reduceEqDiff, Nat.reduceBEq, Nat.reduceBNe, Nat.reduceAdd, Nat.reduceMul, Nat.reduceLT, Nat.reduceLeDiff, Nat.reduceSub, reduceCtorEq, Int.reduceToNat, ↓reduceIte]))
  all_goals first
    | omega
    | (simp only [lenMax]; omega)
    | (have : xs = [] := List.eq_nil_of_length_eq_zero hx
       subst this
       rfl)
    | exact ints_c1 _ _ hx
theorem iClip_gives (xs : List Int) (h : Hp) : Gives Try.prog 142 [.slice (xs.map (.int .i64)) .no] h (.slice (xs.map (.int .i64)) .full) := by
  refine meets_of [] mixed Try.func142 rfl (by kernel_rfl) (by kernel_rfl) (by rw [Try.ntmps142]; simp only [List.length_cons, List.length_nil]; omega) (fun hf => ?_)
  rw [Try.results142]
  clear hf
  try simp -implicitDefEqProofs only [push_cast, Nat.reduceEqDiff, Nat.reduceBEq, Nat.reduceBNe, Nat.reduceAdd, Nat.reduceMul, Nat.reduceLT, Nat.reduceLeDiff, Nat.reduceSub, reduceCtorEq, Int.reduceToNat, ↓reduceIte]
  repeat'
    (first
     | (refine uYes ?_; first | exact List.mem_cons_self | (simp only [List.mem_cons, List.not_mem_nil, or_false, true_or, or_true]; done))
     | (refine uNo (by kernel_rfl))
     | (refine flatMk ?_; kernel_rfl)
     | (refine And.intro ?_ ?_)
     | (intro hx)
     | ((first
         | (refine callGF ?_)
         | (refine callQGF ?_)
         | (refine skipG ?_)
         | (refine callS (in_gives ..) ?_)
         | (refine callQ (in_gives ..) ?_)
         | (refine callG (fun hc => (in_gives ..)) ?_)
         | (refine callQG (fun hc => (in_gives ..)) ?_)); simp -implicitDefEqProofs only [push_cast, Nat.reduceEqDiff, Nat.reduceBEq, Nat.reduceBNe, Nat.reduceAdd, Nat.reduceMul, Nat.reduceLT, Nat.reduceLeDiff, Nat.reduceSub, reduceCtorEq, Int.reduceToNat, ↓reduceIte]))
  all_goals first
    | omega
theorem iclone_gives (xs : List Int) (h : Hp) : Gives Try.prog 130 [.slice (xs.map (.int .i64)) .no] h (.slice (xs.map (.int .i64)) .full) := by
  refine meets_of [] mixed Try.func130 rfl (by kernel_rfl) (by kernel_rfl) (by rw [Try.ntmps130]; simp only [List.length_cons, List.length_nil]; omega) (fun hf => ?_)
  rw [Try.results130]
  clear hf
  try simp -implicitDefEqProofs only [push_cast, Nat.reduceEqDiff, Nat.reduceBEq, Nat.reduceBNe, Nat.reduceAdd, Nat.reduceMul, Nat.reduceLT, Nat.reduceLeDiff, Nat.reduceSub, reduceCtorEq, Int.reduceToNat, ↓reduceIte]
  repeat'
    (first
     | (refine uYes ?_; first | exact List.mem_cons_self | (simp only [List.mem_cons, List.not_mem_nil, or_false, true_or, or_true]; done))
     | (refine uNo (by kernel_rfl))
     | (refine flatMk ?_; kernel_rfl)
     | (refine And.intro ?_ ?_)
     | (intro hx)
     | ((first
         | (refine callGF ?_)
         | (refine callQGF ?_)
         | (refine skipG ?_)
         | (refine callS (iClone_gives xs _) ?_)
         | (refine callQ (iClone_gives xs _) ?_)
         | (refine callG (fun hc => (iClone_gives xs _)) ?_)
         | (refine callQG (fun hc => (iClone_gives xs _)) ?_)
         | (refine callS (iClip_gives xs _) ?_)
         | (refine callQ (iClip_gives xs _) ?_)
         | (refine callG (fun hc => (iClip_gives xs _)) ?_)
         | (refine callQG (fun hc => (iClip_gives xs _)) ?_)); simp -implicitDefEqProofs only [push_cast, Nat.reduceEqDiff, Nat.reduceBEq, Nat.reduceBNe, Nat.reduceAdd, Nat.reduceMul, Nat.reduceLT, Nat.reduceLeDiff, Nat.reduceSub, reduceCtorEq, Int.reduceToNat, ↓reduceIte]))
  all_goals first
    | omega
theorem iCloneR (xs : List Int) (h : Hp) (hne : xs ≠ []) : Meets Try.prog 143 [.slice (xs.map (.int .i64)) .no] h fun d' h' => d' = .vec h.length false 1 0 xs.length xs.length ∧ h' = h ++ [.row (xs.map (.int .i64))] := by
  refine meets_of [7] mixed Try.func143 rfl (by kernel_rfl) (by kernel_rfl) (by rw [Try.ntmps143]; simp only [List.length_cons, List.length_nil]; omega) (fun hf => ?_)
  rw [Try.results143]
  have hl0 : xs.length ≠ 0 := fun e => hne (List.eq_nil_of_length_eq_zero e)
  have hl : xs.length ≤ 1073741824 := by simpa [fitsD, flen, lenMax] using hf
  clear hf
  try simp -implicitDefEqProofs only [push_cast, Nat.reduceEqDiff, Nat.reduceBEq, Nat.reduceBNe, Nat.reduceAdd, Nat.reduceMul, Nat.reduceLT, Nat.reduceLeDiff, Nat.reduceSub, reduceCtorEq, Int.reduceToNat, ↓reduceIte]
  repeat'
    (first
     | (refine uYes ?_; first | exact List.mem_cons_self | (simp only [List.mem_cons, List.not_mem_nil, or_false, true_or, or_true]; done))
     | (refine uNo (by kernel_rfl))
     | (refine flatMk ?_; kernel_rfl)
     | (refine And.intro ?_ ?_)
     | (intro hx)
     | ((first
         | (refine callGF ?_)
         | (refine callQGF ?_)
         | (refine skipG ?_)
         | (refine callS (in_gives ..) ?_)
         | (refine callQ (in_gives ..) ?_)
         | (refine callG (fun hc => (in_gives ..)) ?_)
         | (refine callQG (fun hc => (in_gives ..)) ?_)); simp -implicitDefEqProofs only [push_cast, Nat.reduceEqDiff, Nat.reduceBEq, Nat.reduceBNe, Nat.reduceAdd, Nat.reduceMul, Nat.reduceLT, Nat.reduceLeDiff, Nat.reduceSub, reduceCtorEq, Int.reduceToNat, ↓reduceIte]))
  all_goals first
    | omega
    | (simp only [lenMax]; omega)
    | (exfalso; omega)
    | exact ints_c1 _ _ hx
    | exact ints_cl _ _ _ hx
theorem iClipR (r n cp : Nat) (h : Hp) (hr : r < h.length) (hn : n ≤ cp) : Gives Try.prog 142 [.vec r false 1 0 n cp] h (.vec r false 1 0 n n) := by
  refine meets_of [] mixed Try.func142 rfl (by kernel_rfl) (by kernel_rfl) (by rw [Try.ntmps142]; simp only [List.length_cons, List.length_nil]; omega) (fun hf => ?_)
  rw [Try.results142]
  clear hf
  try simp -implicitDefEqProofs only [push_cast, Nat.reduceEqDiff, Nat.reduceBEq, Nat.reduceBNe, Nat.reduceAdd, Nat.reduceMul, Nat.reduceLT, Nat.reduceLeDiff, Nat.reduceSub, reduceCtorEq, Int.reduceToNat, ↓reduceIte]
  repeat'
    (first
     | (refine uYes ?_; first | exact List.mem_cons_self | (simp only [List.mem_cons, List.not_mem_nil, or_false, true_or, or_true]; done))
     | (refine uNo (by kernel_rfl))
     | (refine flatMk ?_; kernel_rfl)
     | (refine And.intro ?_ ?_)
     | (intro hx)
     | ((first
         | (refine callGF ?_)
         | (refine callQGF ?_)
         | (refine skipG ?_)
         | (refine callS (in_gives ..) ?_)
         | (refine callQ (in_gives ..) ?_)
         | (refine callG (fun hc => (in_gives ..)) ?_)
         | (refine callQG (fun hc => (in_gives ..)) ?_)); simp -implicitDefEqProofs only [push_cast, Nat.reduceEqDiff, Nat.reduceBEq, Nat.reduceBNe, Nat.reduceAdd, Nat.reduceMul, Nat.reduceLT, Nat.reduceLeDiff, Nat.reduceSub, reduceCtorEq, Int.reduceToNat, ↓reduceIte]))
  all_goals first
    | omega
theorem icloneR (xs : List Int) (h : Hp) {n : Nat} (hn : h.length = n) : Meets Try.prog 130 [.slice (xs.map (.int .i64)) .no] h fun d' h' => d' = .vec n false 1 0 xs.length xs.length ∧ h' = h ++ [.row (xs.map (.int .i64))] := by
  subst hn
  by_cases hx : xs = []
  · subst hx
    exact ghost (iclone_gives [] h) false 1
  · refine meets_of [] mixed Try.func130 rfl (by kernel_rfl) (by kernel_rfl) (by rw [Try.ntmps130]; simp only [List.length_cons, List.length_nil]; omega) (fun hf => ?_)
    rw [Try.results130]
    clear hf
    try simp -implicitDefEqProofs only [push_cast, Nat.reduceEqDiff, Nat.reduceBEq, Nat.reduceBNe, Nat.reduceAdd, Nat.reduceMul, Nat.reduceLT, Nat.reduceLeDiff, Nat.reduceSub, reduceCtorEq, Int.reduceToNat, ↓reduceIte]
    repeat'
      (first
       | (refine uYes ?_; first | exact List.mem_cons_self | (simp only [List.mem_cons, List.not_mem_nil, or_false, true_or, or_true]; done))
       | (refine uNo (by kernel_rfl))
       | (refine flatMk ?_; kernel_rfl)
       | (refine And.intro ?_ ?_)
       | (intro hx)
       | ((first
           | (refine callGF ?_)
           | (refine callQGF ?_)
           | (refine skipG ?_)
           | (refine callM (iCloneR xs _ hx) ?_)
           | (refine callS (iClipR _ _ _ _ (by simp -implicitDefEqProofs only [push_cast, Nat.reduceEqDiff, Nat.reduceBEq, Nat.reduceBNe, Nat.reduceAdd, Nat.reduceMul, Nat.reduceLT, Nat.reduceLeDiff, Nat.reduceSub, reduceCtorEq, Int.reduceToNat, ↓reduceIte]) (Nat.le_refl _)) ?_)
           | (refine callQ (iClipR _ _ _ _ (by simp -implicitDefEqProofs only [push_cast, Nat.reduceEqDiff, Nat.reduceBEq, Nat.reduceBNe, Nat.reduceAdd, Nat.reduceMul, Nat.reduceLT, Nat.reduceLeDiff, Nat.reduceSub, reduceCtorEq, Int.reduceToNat, ↓reduceIte]) (Nat.le_refl _)) ?_)
           | (refine callG (fun hc => (iClipR _ _ _ _ (by simp -implicitDefEqProofs only [push_cast, Nat.reduceEqDiff, Nat.reduceBEq, Nat.reduceBNe, Nat.reduceAdd, Nat.reduceMul, Nat.reduceLT, Nat.reduceLeDiff, Nat.reduceSub, reduceCtorEq, Int.reduceToNat, ↓reduceIte]) (Nat.le_refl _))) ?_)
           | (refine callQG (fun hc => (iClipR _ _ _ _ (by simp -implicitDefEqProofs only [push_cast, Nat.reduceEqDiff, Nat.reduceBEq, Nat.reduceBNe, Nat.reduceAdd, Nat.reduceMul, Nat.reduceLT, Nat.reduceLeDiff, Nat.reduceSub, reduceCtorEq, Int.reduceToNat, ↓reduceIte]) (Nat.le_refl _))) ?_)); simp -implicitDefEqProofs only [push_cast, Nat.reduceEqDiff, Nat.reduceBEq, Nat.reduceBNe, Nat.reduceAdd, Nat.reduceMul, Nat.reduceLT, Nat.reduceLeDiff, Nat.reduceSub, reduceCtorEq, Int.reduceToNat, ↓reduceIte]))
    all_goals first
      | omega
      | exact ints_cl _ _ _ hx

theorem hClone_gives (xs : List Hold) (h : Hp) : Gives Try.prog 145 [.slice (xs.map Hold.d) .no] h (.slice (xs.map Hold.d) .no) := by
  refine meets_of [] mixed Try.func145 rfl (by kernel_rfl) (by kernel_rfl) (by rw [Try.ntmps145]; simp only [List.length_cons, List.length_nil]; omega) (fun hf => ?_)
  rw [Try.results145]
  have hl : xs.length ≤ 1073741824 := by simpa [fitsD, flen, lenMax] using hf
  clear hf
  try simp -implicitDefEqProofs only [push_cast, Nat.reduceEqDiff, Nat.reduceBEq, Nat.reduceBNe, Nat.reduceAdd, Nat.reduceMul, Nat.reduceLT, Nat.reduceLeDiff, Nat.reduceSub, reduceCtorEq, Int.reduceToNat, ↓reduceIte]
  repeat'
    (first
     | (refine uYes ?_; first | exact List.mem_cons_self | (simp only [List.mem_cons, List.not_mem_nil, or_false, true_or, or_true]; done))
     | (refine uNo (by kernel_rfl))
     | (refine flatMk ?_; kernel_rfl)
     | (refine And.intro ?_ ?_)
     | (intro hx)
     | ((first
         | (refine callGF ?_)
         | (refine callQGF ?_)
         | (refine skipG ?_)
         | (refine callS (in_gives ..) ?_)
         | (refine callQ (in_gives ..) ?_)
         | (refine callG (fun hc => (in_gives ..)) ?_)
         | (refine callQG (fun hc => (in_gives ..)) ?_)); simp -implicitDefEqProofs only [push_cast, Nat.reduceEqDiff, Nat.reduceBEq, Nat.reduceBNe, Nat.reduceAdd, Nat.reduceMul, Nat.reduceLT, Nat.reduceLeDiff, Nat.reduceSub, reduceCtorEq, Int.reduceToNat, ↓reduceIte]))
  all_goals first
    | omega
    | (simp only [lenMax]; omega)
    | (have : xs = [] := List.eq_nil_of_length_eq_zero hx
       subst this
       rfl)
    | exact holds_c1 _ _ hx
theorem hClip_gives (xs : List Hold) (h : Hp) : Gives Try.prog 144 [.slice (xs.map Hold.d) .no] h (.slice (xs.map Hold.d) .full) := by
  refine meets_of [] mixed Try.func144 rfl (by kernel_rfl) (by kernel_rfl) (by rw [Try.ntmps144]; simp only [List.length_cons, List.length_nil]; omega) (fun hf => ?_)
  rw [Try.results144]
  clear hf
  try simp -implicitDefEqProofs only [push_cast, Nat.reduceEqDiff, Nat.reduceBEq, Nat.reduceBNe, Nat.reduceAdd, Nat.reduceMul, Nat.reduceLT, Nat.reduceLeDiff, Nat.reduceSub, reduceCtorEq, Int.reduceToNat, ↓reduceIte]
  repeat'
    (first
     | (refine uYes ?_; first | exact List.mem_cons_self | (simp only [List.mem_cons, List.not_mem_nil, or_false, true_or, or_true]; done))
     | (refine uNo (by kernel_rfl))
     | (refine flatMk ?_; kernel_rfl)
     | (refine And.intro ?_ ?_)
     | (intro hx)
     | ((first
         | (refine callGF ?_)
         | (refine callQGF ?_)
         | (refine skipG ?_)
         | (refine callS (in_gives ..) ?_)
         | (refine callQ (in_gives ..) ?_)
         | (refine callG (fun hc => (in_gives ..)) ?_)
         | (refine callQG (fun hc => (in_gives ..)) ?_)); simp -implicitDefEqProofs only [push_cast, Nat.reduceEqDiff, Nat.reduceBEq, Nat.reduceBNe, Nat.reduceAdd, Nat.reduceMul, Nat.reduceLT, Nat.reduceLeDiff, Nat.reduceSub, reduceCtorEq, Int.reduceToNat, ↓reduceIte]))
  all_goals first
    | omega
theorem hclone_gives (xs : List Hold) (h : Hp) : Gives Try.prog 131 [.slice (xs.map Hold.d) .no] h (.slice (xs.map Hold.d) .full) := by
  refine meets_of [] mixed Try.func131 rfl (by kernel_rfl) (by kernel_rfl) (by rw [Try.ntmps131]; simp only [List.length_cons, List.length_nil]; omega) (fun hf => ?_)
  rw [Try.results131]
  clear hf
  try simp -implicitDefEqProofs only [push_cast, Nat.reduceEqDiff, Nat.reduceBEq, Nat.reduceBNe, Nat.reduceAdd, Nat.reduceMul, Nat.reduceLT, Nat.reduceLeDiff, Nat.reduceSub, reduceCtorEq, Int.reduceToNat, ↓reduceIte]
  repeat'
    (first
     | (refine uYes ?_; first | exact List.mem_cons_self | (simp only [List.mem_cons, List.not_mem_nil, or_false, true_or, or_true]; done))
     | (refine uNo (by kernel_rfl))
     | (refine flatMk ?_; kernel_rfl)
     | (refine And.intro ?_ ?_)
     | (intro hx)
     | ((first
         | (refine callGF ?_)
         | (refine callQGF ?_)
         | (refine skipG ?_)
         | (refine callS (hClone_gives xs _) ?_)
         | (refine callQ (hClone_gives xs _) ?_)
         | (refine callG (fun hc => (hClone_gives xs _)) ?_)
         | (refine callQG (fun hc => (hClone_gives xs _)) ?_)
         | (refine callS (hClip_gives xs _) ?_)
         | (refine callQ (hClip_gives xs _) ?_)
         | (refine callG (fun hc => (hClip_gives xs _)) ?_)
         | (refine callQG (fun hc => (hClip_gives xs _)) ?_)); simp -implicitDefEqProofs only [push_cast, Nat.reduceEqDiff, Nat.reduceBEq, Nat.reduceBNe, Nat.reduceAdd, Nat.reduceMul, Nat.reduceLT, Nat.reduceLeDiff, Nat.reduceSub, reduceCtorEq, Int.reduceToNat, ↓reduceIte]))
  all_goals first
    | omega
theorem hCloneR (xs : List Hold) (h : Hp) (hne : xs ≠ []) : Meets Try.prog 145 [.slice (xs.map Hold.d) .no] h fun d' h' => d' = .vec h.length true 3 0 xs.length xs.length ∧ h' = h ++ [.row (xs.flatMap Hold.cs)] := by
  refine meets_of [7] mixed Try.func145 rfl (by kernel_rfl) (by kernel_rfl) (by rw [Try.ntmps145]; simp only [List.length_cons, List.length_nil]; omega) (fun hf => ?_)
  rw [Try.results145]
  have hl0 : xs.length ≠ 0 := fun e => hne (List.eq_nil_of_length_eq_zero e)
  have hl : xs.length ≤ 1073741824 := by simpa [fitsD, flen, lenMax] using hf
  clear hf
  try simp -implicitDefEqProofs only [push_cast, Nat.reduceEqDiff, Nat.reduceBEq, Nat.reduceBNe, Nat.reduceAdd, Nat.reduceMul, Nat.reduceLT, Nat.reduceLeDiff, Nat.reduceSub, reduceCtorEq, Int.reduceToNat, ↓reduceIte]
  repeat'
    (first
     | (refine uYes ?_; first | exact List.mem_cons_self | (simp only [List.mem_cons, List.not_mem_nil, or_false, true_or, or_true]; done))
     | (refine uNo (by kernel_rfl))
     | (refine flatMk ?_; kernel_rfl)
     | (refine And.intro ?_ ?_)
     | (intro hx)
     | ((first
         | (refine callGF ?_)
         | (refine callQGF ?_)
         | (refine skipG ?_)
         | (refine callS (in_gives ..) ?_)
         | (refine callQ (in_gives ..) ?_)
         | (refine callG (fun hc => (in_gives ..)) ?_)
         | (refine callQG (fun hc => (in_gives ..)) ?_)); simp -implicitDefEqProofs only [push_cast, Nat.reduceEqDiff, Nat.reduceBEq, Nat.reduceBNe, Nat.reduceAdd, Nat.reduceMul, Nat.reduceLT, Nat.reduceLeDiff, Nat.reduceSub, reduceCtorEq, Int.reduceToNat, ↓reduceIte]))
  all_goals first
    | omega
    | (simp only [lenMax]; omega)
    | (exfalso; omega)
    | exact holds_c1 _ _ hx
    | exact holds_cl _ _ _ hx
theorem hClipR (r n cp : Nat) (h : Hp) (hr : r < h.length) (hn : n ≤ cp) : Gives Try.prog 144 [.vec r true 3 0 n cp] h (.vec r true 3 0 n n) := by
  refine meets_of [] mixed Try.func144 rfl (by kernel_rfl) (by kernel_rfl) (by rw [Try.ntmps144]; simp only [List.length_cons, List.length_nil]; omega) (fun hf => ?_)
  rw [Try.results144]
  clear hf
  try simp -implicitDefEqProofs only [push_cast, Nat.reduceEqDiff, Nat.reduceBEq, Nat.reduceBNe, Nat.reduceAdd, Nat.reduceMul, Nat.reduceLT, Nat.reduceLeDiff, Nat.reduceSub, reduceCtorEq, Int.reduceToNat, ↓reduceIte]
  repeat'
    (first
     | (refine uYes ?_; first | exact List.mem_cons_self | (simp only [List.mem_cons, List.not_mem_nil, or_false, true_or, or_true]; done))
     | (refine uNo (by kernel_rfl))
     | (refine flatMk ?_; kernel_rfl)
     | (refine And.intro ?_ ?_)
     | (intro hx)
     | ((first
         | (refine callGF ?_)
         | (refine callQGF ?_)
         | (refine skipG ?_)
         | (refine callS (in_gives ..) ?_)
         | (refine callQ (in_gives ..) ?_)
         | (refine callG (fun hc => (in_gives ..)) ?_)
         | (refine callQG (fun hc => (in_gives ..)) ?_)); simp -implicitDefEqProofs only [push_cast, Nat.reduceEqDiff, Nat.reduceBEq, Nat.reduceBNe, Nat.reduceAdd, Nat.reduceMul, Nat.reduceLT, Nat.reduceLeDiff, Nat.reduceSub, reduceCtorEq, Int.reduceToNat, ↓reduceIte]))
  all_goals first
    | omega
theorem hcloneR (xs : List Hold) (h : Hp) {n : Nat} (hn : h.length = n) : Meets Try.prog 131 [.slice (xs.map Hold.d) .no] h fun d' h' => d' = .vec n true 3 0 xs.length xs.length ∧ h' = h ++ [.row (xs.flatMap Hold.cs)] := by
  subst hn
  by_cases hx : xs = []
  · subst hx
    exact ghost (hclone_gives [] h) true 3
  · refine meets_of [] mixed Try.func131 rfl (by kernel_rfl) (by kernel_rfl) (by rw [Try.ntmps131]; simp only [List.length_cons, List.length_nil]; omega) (fun hf => ?_)
    rw [Try.results131]
    clear hf
    try simp -implicitDefEqProofs only [push_cast, Nat.reduceEqDiff, Nat.reduceBEq, Nat.reduceBNe, Nat.reduceAdd, Nat.reduceMul, Nat.reduceLT, Nat.reduceLeDiff, Nat.reduceSub, reduceCtorEq, Int.reduceToNat, ↓reduceIte]
    repeat'
      (first
       | (refine uYes ?_; first | exact List.mem_cons_self | (simp only [List.mem_cons, List.not_mem_nil, or_false, true_or, or_true]; done))
       | (refine uNo (by kernel_rfl))
       | (refine flatMk ?_; kernel_rfl)
       | (refine And.intro ?_ ?_)
       | (intro hx)
       | ((first
           | (refine callGF ?_)
           | (refine callQGF ?_)
           | (refine skipG ?_)
           | (refine callM (hCloneR xs _ hx) ?_)
           | (refine callS (hClipR _ _ _ _ (by simp -implicitDefEqProofs only [push_cast, Nat.reduceEqDiff, Nat.reduceBEq, Nat.reduceBNe, Nat.reduceAdd, Nat.reduceMul, Nat.reduceLT, Nat.reduceLeDiff, Nat.reduceSub, reduceCtorEq, Int.reduceToNat, ↓reduceIte]) (Nat.le_refl _)) ?_)
           | (refine callQ (hClipR _ _ _ _ (by simp -implicitDefEqProofs only [push_cast, Nat.reduceEqDiff, Nat.reduceBEq, Nat.reduceBNe, Nat.reduceAdd, Nat.reduceMul, Nat.reduceLT, Nat.reduceLeDiff, Nat.reduceSub, reduceCtorEq, Int.reduceToNat, ↓reduceIte]) (Nat.le_refl _)) ?_)
           | (refine callG (fun hc => (hClipR _ _ _ _ (by simp -implicitDefEqProofs only [push_cast, Nat.reduceEqDiff, Nat.reduceBEq, Nat.reduceBNe, Nat.reduceAdd, Nat.reduceMul, Nat.reduceLT, Nat.reduceLeDiff, Nat.reduceSub, reduceCtorEq, Int.reduceToNat, ↓reduceIte]) (Nat.le_refl _))) ?_)
           | (refine callQG (fun hc => (hClipR _ _ _ _ (by simp -implicitDefEqProofs only [push_cast, Nat.reduceEqDiff, Nat.reduceBEq, Nat.reduceBNe, Nat.reduceAdd, Nat.reduceMul, Nat.reduceLT, Nat.reduceLeDiff, Nat.reduceSub, reduceCtorEq, Int.reduceToNat, ↓reduceIte]) (Nat.le_refl _))) ?_)); simp -implicitDefEqProofs only [push_cast, Nat.reduceEqDiff, Nat.reduceBEq, Nat.reduceBNe, Nat.reduceAdd, Nat.reduceMul, Nat.reduceLT, Nat.reduceLeDiff, Nat.reduceSub, reduceCtorEq, Int.reduceToNat, ↓reduceIte]))
    all_goals first
      | omega
      | exact holds_cl _ _ _ hx

end Go.Proofs.Ytmehbbepppjikaa
