/- Contracts of functions of the program (Gg). -/
import Derived.Test.YtmehbbepppjikaaGd
import Derived.Test.YtmehbbepppjikaaGe
import Derived.Test.YtmehbbepppjikaaGc
import Derived.Test.YtmehbbepppjikaaEc

namespace Go.Proofs.Ytmehbbepppjikaa
open Go.Av
set_option maxRecDepth 10000
set_option linter.unusedSimpArgs false
set_option linter.unusedVariables false

theorem flat_ints (k : IntKind) (xs : List Int) : flat (xs.map (D.int k)) = xs.map (D.int k) := by
  rw [flat, List.flatMap_map]
  induction xs with
  | nil => rfl
  | cons x xs ih => rw [List.flatMap_cons, ih]; rfl
theorem flat_holds (xs : List Hold) : flat (xs.map Hold.d) = xs.flatMap Hold.cs := by
  rw [flat, List.flatMap_map]
  rfl
attribute [push_cast] flat_ints flat_holds
theorem ints_c1 (xs : List Int) : ∀ d, d ∈ xs.map (D.int .i64) → cell1 d := by
  intro d hd
  obtain ⟨x, _, rfl⟩ := List.mem_map.1 hd
  trivial
theorem holds_c1 (xs : List Hold) : ∀ d, d ∈ xs.flatMap Hold.cs → cell1 d := by
  intro d hd
  obtain ⟨x, _, hd⟩ := List.mem_flatMap.1 hd
  simp only [Hold.cs, List.mem_cons, List.not_mem_nil, or_false] at hd
  rcases hd with rfl | rfl | rfl <;> trivial
theorem ints_cl (xs : List Int) (n : Nat) : ∀ d, d ∈ xs.map (D.int .i64) → Cl n d := by
  intro d hd
  obtain ⟨x, _, rfl⟩ := List.mem_map.1 hd
  exact .int _ _
theorem holds_cl (xs : List Hold) (n : Nat) : ∀ d, d ∈ xs.flatMap Hold.cs → Cl n d := by
  intro d hd
  obtain ⟨x, _, hd⟩ := List.mem_flatMap.1 hd
  simp only [Hold.cs, List.mem_cons, List.not_mem_nil, or_false] at hd
  rcases hd with rfl | rfl | rfl <;> exact .int _ _
theorem callM {P : Program} {mu : List Nat} {ops rest : List Oper} {dst : Option Tmp} {fr : Fr} {h : Hp} {K : St → Prop} {f : FuncId} {ys : List D} {d : D} {hh : Hp} (c : Meets P f ys h fun d' h' => d' = d ∧ h' = hh) (k : evOps P mu ops rest ⟨putO fr dst d, hh⟩ K) : CallSt P mu ops rest dst fr h K f ys :=
  call_meets c (wkL_same ys) (fun d' h' ⟨e1, e2⟩ => by subst e1 e2; exact k)
/-- An empty slice is an empty row. -/
theorem ghost {P : Program} {f : FuncId} {args : List D} {h : Hp} (H : Gives P f args h (.slice [] .full)) (ag : Bool) (sz : Nat) : Meets P f args h fun d' h' => d' = .vec h.length ag sz 0 0 0 ∧ h' = h ++ [.row []] := by
  refine ⟨H.1, fun w σ vs hi hr => (H.2 w σ vs hi hr).mono ?_⟩
  rintro e w' ⟨v, he, d, h', σ', ⟨rfl, rfl⟩, hi', hd, hst⟩
  obtain ⟨g1, g2⟩ := inv_add hi' (Adds.refl w') none (.row []) (fun b e => by cases e) (fun cs e _ => by cases e; exact ⟨.inl ⟨rfl, fun b hb => by rw [List.getElem?_append_right (by rw [hi'.len]; exact Nat.le_refl _), hi'.len, Nat.sub_self] at hb; cases hb⟩⟩)
  refine ⟨v, he, _, _, _, ⟨rfl, rfl⟩, g1, ?_, hst.trans g2⟩
  cases hd with
  | slice _ _ a cap vs hlen hcap hfull htok hc hr => exact .vec h'.length ag sz 0 0 0 a cap (Nat.zero_le _) ⟨Nat.le_refl _, Nat.zero_le _⟩ (by simp) (fun k hk => by rw [List.getElem?_append_right (Nat.le_refl _)] at hk; simp at hk) (.inl hfull)

theorem iClone_gives (xs : List Int) (h : Hp) : Gives Try.prog 143 [.slice (xs.map (.int .i64)) .no] h (.slice (xs.map (.int .i64)) .no) := by
  refine meets_of [] mixed Try.func143 rfl (by kernel_rfl) (by kernel_rfl) (by rw [Try.ntmps143]; simp only [List.length_cons, List.length_nil]; omega) (fun hf => ?_)
  rw [Try.results143]
  have hl : xs.length ≤ 1073741824 := by simpa [fitsD, flen, lenMax] using hf
  clear hf
  try simp -implicitDefEqProofs only [push_cast, Nat.reduceEqDiff, Nat.reduceBEq, Nat.reduceBNe, Nat.reduceAdd, Nat.reduceMul, Nat.reduceLT, Nat.reduceLeDiff, Nat.reduceSub, reduceCtorEq, Int.reduceToNat, ↓reduceIte]
  repeat'
    (first
     | (refine uYes ?_; first | exact List.mem_cons_self | (simp only [List.mem_cons, List.not_mem_nil, or_false, true_or, or_true]; done))
     | (refine uNo (by kernel_rfl))
     | (refine flatMk ?_; kernel_rfl)
     | (refine And.intro ?_ ?_)
     | (intro hx)
     | ((first
         | (refine callGF ?_)
         | (refine callQGF ?_)
         | (refine skipG ?_)
         | (refine callS (in_gives ..) ?_)
         | (refine callQ (in_gives ..) ?_)
         | (refine callG (fun hc => (in_gives ..)) ?_)
         | (refine callQG (fun hc => (in_gives ..)) ?_)); simp -implicitDefEqProofs only [push_cast, Nat.reduceEqDiff, Nat.reduceBEq, Nat.reduceBNe, Nat.reduceAdd, Nat.reduceMul, Nat.reduceLT, Nat.reduceLeDiff, Nat.reduceSub, reduceCtorEq, Int.reduceToNat, ↓reduceIte]))
  all_goals first
    | omega
    | (simp only [lenMax]; omega)
    | (have : xs = [] := List.eq_nil_of_length_eq_zero hx
       subst this
       rfl)
    | exact ints_c1 _ _ hx
theorem iClip_gives (xs : List Int) (h : Hp) : Gives Try.prog 142 [.slice (xs.map (.int .i64)) .no] h (.slice (xs.map (.int .i64)) .full) := by
  refine meets_of [] mixed Try.func142 rfl (by kernel_rfl) (by kernel_rfl) (by rw [Try.ntmps142]; simp only [List.length_cons, List.length_nil]; omega) (fun hf => ?_)
  rw [Try.results142]
  clear hf
  try simp -implicitDefEqProofs only [push_cast, Nat.reduceEqDiff, Nat.reduceBEq, Nat.reduceBNe, Nat.reduceAdd, Nat.reduceMul, Nat.reduceLT, Nat.reduceLeDiff, Nat.reduceSub, reduceCtorEq, Int.reduceToNat, ↓reduceIte]
  repeat'
    (first
     | (refine uYes ?_; first | exact List.mem_cons_self | (simp only [List.mem_cons, List.not_mem_nil, or_false, true_or, or_true]; done))
     | (refine uNo (by kernel_rfl))
     | (refine flatMk ?_; kernel_rfl)
     | (refine And.intro ?_ ?_)
     | (intro hx)
     | ((first
         | (refine callGF ?_)
         | (refine callQGF ?_)
         | (refine skipG ?_)
         | (refine callS (in_gives ..) ?_)
         | (refine callQ (in_gives ..) ?_)
         | (refine callG (fun hc => (in_gives ..)) ?_)
         | (refine callQG (fun hc => (in_gives ..)) ?_)); simp -implicitDefEqProofs only [push_cast, Nat.reduceEqDiff, Nat.reduceBEq, Nat.reduceBNe, Nat.reduceAdd, Nat.reduceMul, Nat.reduceLT, Nat.reduceLeDiff, Nat.reduceSub, reduceCtorEq, Int.reduceToNat, ↓reduceIte]))
  all_goals first
    | omega
theorem iclone_gives (xs : List Int) (h : Hp) : Gives Try.prog 130 [.slice (xs.map (.int .i64)) .no] h (.slice (xs.map (.int .i64)) .full) := by
  refine meets_of [] mixed Try.func130 rfl (by kernel_rfl) (by kernel_rfl) (by rw [Try.ntmps130]; simp only [List.length_cons, List.length_nil]; omega) (fun hf => ?_)
  rw [Try.results130]
  clear hf
  try simp -implicitDefEqProofs only [push_cast, Nat.reduceEqDiff, Nat.reduceBEq, Nat.reduceBNe, Nat.reduceAdd, Nat.reduceMul, Nat.reduceLT, Nat.reduceLeDiff, Nat.reduceSub, reduceCtorEq, Int.reduceToNat, ↓reduceIte]
  repeat'
    (first
     | (refine uYes ?_; first | exact List.mem_cons_self | (simp only [List.mem_cons, List.not_mem_nil, or_false, true_or, or_true]; done))
     | (refine uNo (by kernel_rfl))
     | (refine flatMk ?_; kernel_rfl)
     | (refine And.intro ?_ ?_)
     | (intro hx)
     | ((first
         | (refine callGF ?_)
         | (refine callQGF ?_)
         | (refine skipG ?_)
         | (refine callS (iClone_gives xs _) ?_)
         | (refine callQ (iClone_gives xs _) ?_)
         | (refine callG (fun hc => (iClone_gives xs _)) ?_)
         | (refine callQG (fun hc => (iClone_gives xs _)) ?_)
         | (refine callS (iClip_gives xs _) ?_)
         | (refine callQ (iClip_gives xs _) ?_)
         | (refine callG (fun hc => (iClip_gives xs _)) ?_)
         | (refine callQG (fun hc => (iClip_gives xs _)) ?_)); simp -implicitDefEqProofs only [push_cast, Nat.reduceEqDiff, Nat.reduceBEq, Nat.reduceBNe, Nat.reduceAdd, Nat.reduceMul, Nat.reduceLT, Nat.reduceLeDiff, Nat.reduceSub, reduceCtorEq, Int.reduceToNat, ↓reduceIte]))
  all_goals first
    | omega
theorem iCloneR (xs : List Int) (h : Hp) (hne : xs ≠ []) : Meets Try.prog 143 [.slice (xs.map (.int .i64)) .no] h fun d' h' => d' = .vec h.length false 1 0 xs.length xs.length ∧ h' = h ++ [.row (xs.map (.int .i64))] := by
  refine meets_of [7] mixed Try.func143 rfl (by kernel_rfl) (by kernel_rfl) (by rw [Try.ntmps143]; simp only [List.length_cons, List.length_nil]; omega) (fun hf => ?_)
  rw [Try.results143]
  have hl0 : xs.length ≠ 0 := fun e => hne (List.eq_nil_of_length_eq_zero e)
  have hl : xs.length ≤ 1073741824 := by simpa [fitsD, flen, lenMax] using hf
  clear hf
  try simp -implicitDefEqProofs only [push_cast, Nat.reduceEqDiff, Nat.reduceBEq, Nat.reduceBNe, Nat.reduceAdd, Nat.reduceMul, Nat.reduceLT, Nat.reduceLeDiff, Nat.reduceSub, reduceCtorEq, Int.reduceToNat, ↓reduceIte]
  repeat'
    (first
     | (refine uYes ?_; first | exact List.mem_cons_self | (simp only [List.mem_cons, List.not_mem_nil, or_false, true_or, or_true]; done))
     | (refine uNo (by kernel_rfl))
     | (refine flatMk ?_; kernel_rfl)
     | (refine And.intro ?_ ?_)
     | (intro hx)
     | ((first
         | (refine callGF ?_)
         | (refine callQGF ?_)
         | (refine skipG ?_)
         | (refine callS (in_gives ..) ?_)
         | (refine callQ (in_gives ..) ?_)
         | (refine callG (fun hc => (in_gives ..)) ?_)
         | (refine callQG (fun hc => (in_gives ..)) ?_)); simp -implicitDefEqProofs only [push_cast, Nat.reduceEqDiff, Nat.reduceBEq, Nat.reduceBNe, Nat.reduceAdd, Nat.reduceMul, Nat.reduceLT, Nat.reduceLeDiff, Nat.reduceSub, reduceCtorEq, Int.reduceToNat, ↓reduceIte]))
  all_goals first
    | omega
    | (simp only [lenMax]; omega)
    | (exfalso; omega)
    | exact ints_c1 _ _ hx
    | exact ints_cl _ _ _ hx
theorem iClipR (r n cp : Nat) (h : Hp) (hr : r < h.length) (hn : n ≤ cp) : Gives Try.prog 142 [.vec r false 1 0 n cp] h (.vec r false 1 0 n n) := by
  refine meets_of [] mixed Try.func142 rfl (by kernel_rfl) (by kernel_rfl) (by rw [Try.ntmps142]; simp only [List.length_cons, List.length_nil]; omega) (fun hf => ?_)
  rw [Try.results142]
  clear hf
  try simp -implicitDefEqProofs only [push_cast, Nat.reduceEqDiff, Nat.reduceBEq, Nat.reduceBNe, Nat.reduceAdd, Nat.reduceMul, Nat.reduceLT, Nat.reduceLeDiff, Nat.reduceSub, reduceCtorEq, Int.reduceToNat, ↓reduceIte]
  repeat'
    (first
     | (refine uYes ?_; first | exact List.mem_cons_self | (simp only [List.mem_cons, List.not_mem_nil, or_false, true_or, or_true]; done))
     | (refine uNo (by kernel_rfl))
     | (refine flatMk ?_; kernel_rfl)
     | (refine And.intro ?_ ?_)
     | (intro hx)
     | ((first
         | (refine callGF ?_)
         | (refine callQGF ?_)
         | (refine skipG ?_)
         | (refine callS (in_gives ..) ?_)
         | (refine callQ (in_gives ..) ?_)
         | (refine callG (fun hc => (in_gives ..)) ?_)
         | (refine callQG (fun hc => (in_gives ..)) ?_)); simp -implicitDefEqProofs only [push_cast, Nat.reduceEqDiff, Nat.reduceBEq, Nat.reduceBNe, Nat.reduceAdd, Nat.reduceMul, Nat.reduceLT, Nat.reduceLeDiff, Nat.reduceSub, reduceCtorEq, Int.reduceToNat, ↓reduceIte]))
  all_goals first
    | omega
theorem icloneR (xs : List Int) (h : Hp) {n : Nat} (hn : h.length = n) : Meets Try.prog 130 [.slice (xs.map (.int .i64)) .no] h fun d' h' => d' = .vec n false 1 0 xs.length xs.length ∧ h' = h ++ [.row (xs.map (.int .i64))] := by
  subst hn
  by_cases hx : xs = []
  · subst hx
    exact ghost (iclone_gives [] h) false 1
  · refine meets_of [] mixed Try.func130 rfl (by kernel_rfl) (by kernel_rfl) (by rw [Try.ntmps130]; simp only [List.length_cons, List.length_nil]; omega) (fun hf => ?_)
    rw [Try.results130]
    clear hf
    try simp -implicitDefEqProofs only [push_cast, Nat.reduceEqDiff, Nat.reduceBEq, Nat.reduceBNe, Nat.reduceAdd, Nat.reduceMul, Nat.reduceLT, Nat.reduceLeDiff, Nat.reduceSub, reduceCtorEq, Int.reduceToNat, ↓reduceIte]
    repeat'
      (first
       | (refine uYes ?_; first | exact List.mem_cons_self | (simp only [List.mem_cons, List.not_mem_nil, or_false, true_or, or_true]; done))
       | (refine uNo (by kernel_rfl))
       | (refine flatMk ?_; kernel_rfl)
       | (refine And.intro ?_ ?_)
       | (intro hx)
       | ((first
           | (refine callGF ?_)
           | (refine callQGF ?_)
           | (refine skipG ?_)
           | (refine callM (iCloneR xs _ hx) ?_)
           | (refine callS (iClipR _ _ _ _ (by simp -implicitDefEqProofs only [push_cast, Nat.reduceEqDiff, Nat.reduceBEq, Nat.reduceBNe, Nat.reduceAdd, Nat.reduceMul, Nat.reduceLT, Nat.reduceLeDiff, Nat.reduceSub, reduceCtorEq, Int.reduceToNat, ↓reduceIte]) (Nat.le_refl _)) ?_)
           | (refine callQ (iClipR _ _ _ _ (by simp -implicitDefEqProofs only [push_cast, Nat.reduceEqDiff, Nat.reduceBEq, Nat.reduceBNe, Nat.reduceAdd, Nat.reduceMul, Nat.reduceLT, Nat.reduceLeDiff, Nat.reduceSub, reduceCtorEq, Int.reduceToNat, ↓reduceIte]) (Nat.le_refl _)) ?_)
           | (refine callG (fun hc => (iClipR _ _ _ _ (by simp -implicitDefEqProofs only [push_cast, Nat.reduceEqDiff, Nat.reduceBEq, Nat.reduceBNe, Nat.reduceAdd, Nat.reduceMul, Nat.reduceLT, Nat.reduceLeDiff, Nat.reduceSub, reduceCtorEq, Int.reduceToNat, ↓reduceIte]) (Nat.le_refl _))) ?_)
           | (refine callQG (fun hc => (iClipR _ _ _ _ (by simp -implicitDefEqProofs only [push_cast, Nat.reduceEqDiff, Nat.reduceBEq, Nat.reduceBNe, Nat.reduceAdd, Nat.reduceMul, Nat.reduceLT, Nat.reduceLeDiff, Nat.reduceSub, reduceCtorEq, Int.reduceToNat, ↓reduceIte]) (Nat.le_refl _))) ?_)); simp -implicitDefEqProofs only [push_cast, Nat.reduceEqDiff, Nat.reduceBEq, Nat.reduceBNe, Nat.reduceAdd, Nat.reduceMul, Nat.reduceLT, Nat.reduceLeDiff, Nat.reduceSub, reduceCtorEq, Int.reduceToNat, ↓reduceIte]))
    all_goals first
      | omega
      | exact ints_cl _ _ _ hx

theorem hClone_gives (xs : List Hold) (h : Hp) : Gives Try.prog 145 [.slice (xs.map Hold.d) .no] h (.slice (xs.map Hold.d) .no) := by
  refine meets_of [] mixed Try.func145 rfl (by kernel_rfl) (by kernel_rfl) (by rw [Try.ntmps145]; simp only [List.length_cons, List.length_nil]; omega) (fun hf => ?_)
  rw [Try.results145]
  have hl : xs.length ≤ 1073741824 := by simpa [fitsD, flen, lenMax] using hf
  clear hf
  try simp -implicitDefEqProofs only [push_cast, Nat.reduceEqDiff, Nat.reduceBEq, Nat.reduceBNe, Nat.reduceAdd, Nat.reduceMul, Nat.reduceLT, Nat.reduceLeDiff, Nat.reduceSub, reduceCtorEq, Int.reduceToNat, ↓reduceIte]
  repeat'
    (first
     | (refine uYes ?_; first | exact List.mem_cons_self | (simp only [List.mem_cons, List.not_mem_nil, or_false, true_or, or_true]; done))
     | (refine uNo (by kernel_rfl))
     | (refine flatMk ?_; kernel_rfl)
     | (refine And.intro ?_ ?_)
     | (intro hx)
     | ((first
         | (refine callGF ?_)
         | (refine callQGF ?_)
         | (refine skipG ?_)
         | (refine callS (in_gives ..) ?_)
         | (refine callQ (in_gives ..) ?_)
         | (refine callG (fun hc => (in_gives ..)) ?_)
         | (refine callQG (fun hc => (in_gives ..)) ?_)); simp -implicitDefEqProofs only [push_cast, Nat.reduceEqDiff, Nat.reduceBEq, Nat.reduceBNe, Nat.reduceAdd, Nat.reduceMul, Nat.reduceLT, Nat.reduceLeDiff, Nat.reduceSub, reduceCtorEq, Int.reduceToNat, ↓reduceIte]))
  all_goals first
    | omega
    | (simp only [lenMax]; omega)
    | (have : xs = [] := List.eq_nil_of_length_eq_zero hx
       subst this
       rfl)
    | exact holds_c1 _ _ hx
theorem hClip_gives (xs : List Hold) (h : Hp) : Gives Try.prog 144 [.slice (xs.map Hold.d) .no] h (.slice (xs.map Hold.d) .full) := by
  refine meets_of [] mixed Try.func144 rfl (by kernel_rfl) (by kernel_rfl) (by rw [Try.ntmps144]; simp only [List.length_cons, List.length_nil]; omega) (fun hf => ?_)
  rw [Try.results144]
  clear hf
  try simp -implicitDefEqProofs only [push_cast, Nat.reduceEqDiff, Nat.reduceBEq, Nat.reduceBNe, Nat.reduceAdd, Nat.reduceMul, Nat.reduceLT, Nat.reduceLeDiff, Nat.reduceSub, reduceCtorEq, Int.reduceToNat, ↓reduceIte]
  repeat'
    (first
     | (refine uYes ?_; first | exact List.mem_cons_self | (simp only [List.mem_cons, List.not_mem_nil, or_false, true_or, or_true]; done))
     | (refine uNo (by kernel_rfl))
     | (refine flatMk ?_; kernel_rfl)
     | (refine And.intro ?_ ?_)
     | (intro hx)
     | ((first
         | (refine callGF ?_)
         | (refine callQGF ?_)
         | (refine skipG ?_)
         | (refine callS (in_gives ..) ?_)
         | (refine callQ (in_gives ..) ?_)
         | (refine callG (fun hc => (in_gives ..)) ?_)
         | (refine callQG (fun hc => (in_gives ..)) ?_)); simp -implicitDefEqProofs only [push_cast, Nat.reduceEqDiff, Nat.reduceBEq, Nat.reduceBNe, Nat.reduceAdd, Nat.reduceMul, Nat.reduceLT, Nat.reduceLeDiff, Nat.reduceSub, reduceCtorEq, Int.reduceToNat, ↓reduceIte]))
  all_goals first
    | omega
theorem hclone_gives (xs : List Hold) (h : Hp) : Gives Try.prog 131 [.slice (xs.map Hold.d) .no] h (.slice (xs.map Hold.d) .full) := by
  refine meets_of [] mixed Try.func131 rfl (by kernel_rfl) (by kernel_rfl) (by rw [Try.ntmps131]; simp only [List.length_cons, List.length_nil]; omega) (fun hf => ?_)
  rw [Try.results131]
  clear hf
  try simp -implicitDefEqProofs only [push_cast, Nat.reduceEqDiff, Nat.reduceBEq, Nat.reduceBNe, Nat.reduceAdd, Nat.reduceMul, Nat.reduceLT, Nat.reduceLeDiff, Nat.reduceSub, reduceCtorEq, Int.reduceToNat, ↓reduceIte]
  repeat'
    (first
     | (refine uYes ?_; first | exact List.mem_cons_self | (simp only [List.mem_cons, List.not_mem_nil, or_false, true_or, or_true]; done))
     | (refine uNo (by kernel_rfl))
     | (refine flatMk ?_; kernel_rfl)
     | (refine And.intro ?_ ?_)
     | (intro hx)
     | ((first
         | (refine callGF ?_)
         | (refine callQGF ?_)
         | (refine skipG ?_)
         | (refine callS (hClone_gives xs _) ?_)
         | (refine callQ (hClone_gives xs _) ?_)
         | (refine callG (fun hc => (hClone_gives xs _)) ?_)
         | (refine callQG (fun hc => (hClone_gives xs _)) ?_)
         | (refine callS (hClip_gives xs _) ?_)
         | (refine callQ (hClip_gives xs _) ?_)
         | (refine callG (fun hc => (hClip_gives xs _)) ?_)
         | (refine callQG (fun hc => (hClip_gives xs _)) ?_)); simp -implicitDefEqProofs only [push_cast, Nat.reduceEqDiff, Nat.reduceBEq, Nat.reduceBNe, Nat.reduceAdd, Nat.reduceMul, Nat.reduceLT, Nat.reduceLeDiff, Nat.reduceSub, reduceCtorEq, Int.reduceToNat, ↓reduceIte]))
  all_goals first
    | omega
theorem hCloneR (xs : List Hold) (h : Hp) (hne : xs ≠ []) : Meets Try.prog 145 [.slice (xs.map Hold.d) .no] h fun d' h' => d' = .vec h.length true 3 0 xs.length xs.length ∧ h' = h ++ [.row (xs.flatMap Hold.cs)] := by
  refine meets_of [7] mixed Try.func145 rfl (by kernel_rfl) (by kernel_rfl) (by rw [Try.ntmps145]; simp only [List.length_cons, List.length_nil]; omega) (fun hf => ?_)
  rw [Try.results145]
  have hl0 : xs.length ≠ 0 := fun e => hne (List.eq_nil_of_length_eq_zero e)
  have hl : xs.length ≤ 1073741824 := by simpa [fitsD, flen, lenMax] using hf
  clear hf
  try simp -implicitDefEqProofs only [push_cast, Nat.reduceEqDiff, Nat.reduceBEq, Nat.reduceBNe, Nat.reduceAdd, Nat.reduceMul, Nat.reduceLT, Nat.reduceLeDiff, Nat.reduceSub, reduceCtorEq, Int.reduceToNat, ↓reduceIte]
  repeat'
    (first
     | (refine uYes ?_; first | exact List.mem_cons_self | (simp only [List.mem_cons, List.not_mem_nil, or_false, true_or, or_true]; done))
     | (refine uNo (by kernel_rfl))
     | (refine flatMk ?_; kernel_rfl)
     | (refine And.intro ?_ ?_)
     | (intro hx)
     | ((first
         | (refine callGF ?_)
         | (refine callQGF ?_)
         | (refine skipG ?_)
         | (refine callS (in_gives ..) ?_)
         | (refine callQ (in_gives ..) ?_)
         | (refine callG (fun hc => (in_gives ..)) ?_)
         | (refine callQG (fun hc => (in_gives ..)) ?_)); simp -implicitDefEqProofs only [push_cast, Nat.reduceEqDiff, Nat.reduceBEq, Nat.reduceBNe, Nat.reduceAdd, Nat.reduceMul, Nat.reduceLT, Nat.reduceLeDiff, Nat.reduceSub, reduceCtorEq, Int.reduceToNat, ↓reduceIte]))
  all_goals first
    | omega
    | (simp only [lenMax]; omega)
    | (exfalso; omega)
    | exact holds_c1 _ _ hx
    | exact holds_cl _ _ _ hx
theorem hClipR (r n cp : Nat) (h : Hp) (hr : r < h.length) (hn : n ≤ cp) : Gives Try.prog 144 [.vec r true 3 0 n cp] h (.vec r true 3 0 n n) := by
  refine meets_of [] mixed Try.func144 rfl (by kernel_rfl) (by kernel_rfl) (by rw [Try.ntmps144]; simp only [List.length_cons, List.length_nil]; omega) (fun hf => ?_)
  rw [Try.results144]
  clear hf
  try simp -implicitDefEqProofs only [push_cast, Nat.reduceEqDiff, Nat.reduceBEq, Nat.reduceBNe, Nat.reduceAdd, Nat.reduceMul, Nat.reduceLT, Nat.reduceLeDiff, Nat.reduceSub, reduceCtorEq, Int.reduceToNat, ↓reduceIte]
  repeat'
    (first
     | (refine uYes ?_; first | exact List.mem_cons_self | (simp only [List.mem_cons, List.not_mem_nil, or_false, true_or, or_true]; done))
     | (refine uNo (by kernel_rfl))
     | (refine flatMk ?_; kernel_rfl)
     | (refine And.intro ?_ ?_)
     | (intro hx)
     | ((first
         | (refine callGF ?_)
         | (refine callQGF ?_)
         | (refine skipG ?_)
         | (refine callS (in_gives ..) ?_)
         | (refine callQ (in_gives ..) ?_)
         | (refine callG (fun hc => (in_gives ..)) ?_)
         | (refine callQG (fun hc => (in_gives ..)) ?_)); simp -implicitDefEqProofs only [push_cast, Nat.reduceEqDiff, Nat.reduceBEq, Nat.reduceBNe, Nat.reduceAdd, Nat.reduceMul, Nat.reduceLT, Nat.reduceLeDiff, Nat.reduceSub, reduceCtorEq, Int.reduceToNat, ↓reduceIte]))
  all_goals first
    | omega
theorem hcloneR (xs : List Hold) (h : Hp) {n : Nat} (hn : h.length = n) : Meets Try.prog 131 [.slice (xs.map Hold.d) .no] h fun d' h' => d' = .vec n true 3 0 xs.length xs.length ∧ h' = h ++ [.row (xs.flatMap Hold.cs)] := by
  subst hn
  by_cases hx : xs = []
  · subst hx
    exact ghost (hclone_gives [] h) true 3
  · refine meets_of [] mixed Try.func131 rfl (by kernel_rfl) (by kernel_rfl) (by rw [Try.ntmps131]; simp only [List.length_cons, List.length_nil]; omega) (fun hf => ?_)
    rw [Try.results131]
    clear hf
    try simp -implicitDefEqProofs only [push_cast, Nat.reduceEqDiff, Nat.reduceBEq, Nat.reduceBNe, Nat.reduceAdd, Nat.reduceMul, Nat.reduceLT, Nat.reduceLeDiff, Nat.reduceSub, reduceCtorEq, Int.reduceToNat, ↓reduceIte]
    repeat'
      (first
       | (refine uYes ?_; first | exact List.mem_cons_self | (simp only [List.mem_cons, List.not_mem_nil, or_false, true_or, or_true]; done))
       | (refine uNo (by kernel_rfl))
       | (refine flatMk ?_; kernel_rfl)
       | (refine And.intro ?_ ?_)
       | (intro hx)
       | ((first
           | (refine callGF ?_)
           | (refine callQGF ?_)
           | (refine skipG ?_)
           | (refine callM (hCloneR xs _ hx) ?_)
           | (refine callS (hClipR _ _ _ _ (by simp -implicitDefEqProofs only [push_cast, Nat.reduceEqDiff, Nat.reduceBEq, Nat.reduceBNe, Nat.reduceAdd, Nat.reduceMul, Nat.reduceLT, Nat.reduceLeDiff, Nat.reduceSub, reduceCtorEq, Int.reduceToNat, ↓reduceIte]) (Nat.le_refl _)) ?_)
           | (refine callQ (hClipR _ _ _ _ (by simp -implicitDefEqProofs only [push_cast, Nat.reduceEqDiff, Nat.reduceBEq, Nat.reduceBNe, Nat.reduceAdd, Nat.reduceMul, Nat.reduceLT, Nat.reduceLeDiff, Nat.reduceSub, reduceCtorEq, Int.reduceToNat, ↓reduceIte]) (Nat.le_refl _)) ?_)
           | (refine callG (fun hc => (hClipR _ _ _ _ (by simp -implicitDefEqProofs only [push_cast, Nat.reduceEqDiff, Nat.reduceBEq, Nat.reduceBNe, Nat.reduceAdd, Nat.reduceMul, Nat.reduceLT, Nat.reduceLeDiff, Nat.reduceSub, reduceCtorEq, Int.reduceToNat, ↓reduceIte]) (Nat.le_refl _))) ?_)
           | (refine callQG (fun hc => (hClipR _ _ _ _ (by simp -implicitDefEqProofs only [push_cast, Nat.reduceEqDiff, Nat.reduceBEq, Nat.reduceBNe, Nat.reduceAdd, Nat.reduceMul, Nat.reduceLT, Nat.reduceLeDiff, Nat.reduceSub, reduceCtorEq, Int.reduceToNat, ↓reduceIte]) (Nat.le_refl _))) ?_)); simp -implicitDefEqProofs only [push_cast, Nat.reduceEqDiff, Nat.reduceBEq, Nat.reduceBNe, Nat.reduceAdd, Nat.reduceMul, Nat.reduceLT, Nat.reduceLeDiff, Nat.reduceSub, reduceCtorEq, Int.reduceToNat, ↓reduceIte]))
    all_goals first
      | omega
      | exact holds_cl _ _ _ hx

end Go.Proofs.Ytmehbbepppjikaa

namespace Go.Proofs.Ytmehbbepppjikaa
open Go.Av
set_option maxRecDepth 10000
set_option linter.unusedSimpArgs false
set_option linter.unusedVariables false

/-- a leg whose slices are rows of its own, from object r on -/
def Leg.dvc (l : Leg) (r : Nat) : List D := [.str l.name, .str l.src, .str l.dst, .int .i64 l.dep, .int .i64 l.arr, .int .i64 l.cap, .vec r false 1 0 l.limits.length l.limits.length, .vec (r + 1) false 1 0 l.sold.length l.sold.length, .vec (r + 2) false 1 0 l.bids.length l.bids.length, .vec (r + 3) true 3 0 l.holds.length l.holds.length]
def Leg.dv (l : Leg) (r : Nat) : D := .agg (l.dvc r)
def Leg.rows (l : Leg) : Hp := [.row (l.limits.map (.int .i64)), .row (l.sold.map (.int .i64)), .row (l.bids.map (.int .i64)), .row (l.holds.flatMap Hold.cs)]
theorem Leg.rows_len (l : Leg) : l.rows.length = 4 := rfl
theorem fw_refl (n : Nat) (h : Hp) (d : D) : FW n h d d := ⟨d, .refl d, .refl d⟩
attribute [push_cast] Leg.rows_len
theorem Leg.dvc_cl (l : Leg) {r n : Nat} (h : r + 4 ≤ n) : ∀ d, d ∈ l.dvc r → Cl n d := by
  simp only [Leg.dvc, List.mem_cons, List.not_mem_nil, or_false, forall_eq_or_imp, forall_eq, cl_int, cl_str, cl_vec, true_and]
  omega
theorem Leg.dvc_nm (l : Leg) {r n : Nat} (h : n ≤ r) : ∀ d, d ∈ l.dvc r → NM n d := by
  simp only [Leg.dvc, List.mem_cons, List.not_mem_nil, or_false, forall_eq_or_imp, forall_eq, nm_int, nm_str, nm_vec, true_and]
  omega
theorem Leg.dvc_ren (l : Leg) {n k r : Nat} (h : n ≤ r) : ∀ j (h1 : j < (l.dvc (r + k)).length) (h2 : j < (l.dvc r).length), Ren n k ((l.dvc (r + k))[j]) ((l.dvc r)[j]) := by
  intro j h1 h2
  have hv : ∀ (i : Nat) ag sz len cp, Ren n k (.vec (r + k + i) ag sz 0 len cp) (.vec (r + i) ag sz 0 len cp) := fun i ag sz len cp => by
    have := Ren.vec (n := n) (k := k) (r + i) ag sz 0 len cp (by omega)
    rwa [show r + i + k = r + k + i by omega] at this
  match j, h2 with
  | 0, _ => exact .str _
  | 1, _ => exact .str _
  | 2, _ => exact .str _
  | 3, _ => exact .int _ _
  | 4, _ => exact .int _ _
  | 5, _ => exact .int _ _
  | 6, _ => exact hv 0 _ _ _ _
  | 7, _ => exact hv 1 _ _ _ _
  | 8, _ => exact hv 2 _ _ _ _
  | 9, _ => exact hv 3 _ _ _ _
theorem Leg.dv_ren (l : Leg) {n k r : Nat} (h : n ≤ r) : Ren n k (l.dv (r + k)) (l.dv r) := .agg _ _ rfl (l.dvc_ren h)
theorem ints_ren (xs : List Int) (n k : Nat) : RenOb n k (.row (xs.map (D.int .i64))) (.row (xs.map (D.int .i64))) := .row _ _ rfl (fun j h1 h2 => by
  simp only [List.getElem_map]; exact .int _ _)
theorem holds_ren (xs : List Hold) (n k : Nat) : RenOb n k (.row (xs.flatMap Hold.cs)) (.row (xs.flatMap Hold.cs)) := .row _ _ rfl (fun j h1 h2 => by
  have := List.getElem_mem h1
  obtain ⟨x, _, hd⟩ := List.mem_flatMap.1 this
  simp only [Hold.cs, List.mem_cons, List.not_mem_nil, or_false] at hd
  rcases hd with e | e | e <;> rw [e] <;> exact .int _ _)
theorem Leg.rows_ren (l : Leg) (n k : Nat) : ∀ j (h1 : j < l.rows.length) (h2 : j < l.rows.length), RenOb n k (l.rows[j]) (l.rows[j]) := by
  intro j h1 h2
  match j, h2 with
  | 0, _ => exact ints_ren _ _ _
  | 1, _ => exact ints_ren _ _ _
  | 2, _ => exact ints_ren _ _ _
  | 3, _ => exact holds_ren _ _ _
theorem Leg.rows_nm (l : Leg) (n : Nat) : ∀ x, x ∈ l.rows → NMob n x := by
  have hi : ∀ xs : List Int, NMob n (.row (xs.map (D.int .i64))) := fun xs c hc => by
    obtain ⟨x, _, rfl⟩ := List.mem_map.1 hc
    exact .int _ _
  have hh : NMob n (.row (l.holds.flatMap Hold.cs)) := fun c hc => by
    obtain ⟨x, _, hd⟩ := List.mem_flatMap.1 hc
    simp only [Hold.cs, List.mem_cons, List.not_mem_nil, or_false] at hd
    rcases hd with rfl | rfl | rfl <;> exact .int _ _
  simp only [Leg.rows, List.mem_cons, List.not_mem_nil, or_false, forall_eq_or_imp, forall_eq, hi, hh, and_self]
theorem Leg.rows_cl (l : Leg) (n : Nat) : ∀ x, x ∈ l.rows → ObCl n x := by
  simp only [Leg.rows, List.mem_cons, List.not_mem_nil, or_false, forall_eq_or_imp, forall_eq]
  exact ⟨ints_cl _ _, ints_cl _ _, ints_cl _ _, holds_cl _ _⟩
theorem old_ob (h : Hp) : ∀ (r : Nat) x, h[r]? = some x → h[r]? = some x ∨ ObCl h.length x := fun _ _ e => .inl e

theorem copyOfR (l : Leg) (h : Hp) : Meets Try.prog 105 [l.d] h fun d' h' => d' = l.dv h.length ∧ h' = h ++ l.rows := by
  refine Meets.compact (hb := h) (junk := [.row (l.dvc (h.length + 2)), .row (l.dvc (h.length + 2))]) (rows1 := l.rows) rfl (old_ob h) (l.dv_ren (Nat.le_refl _)) rfl (l.rows_ren _ _) ?_
  refine meets_of [] mixed Try.func105 rfl (by kernel_rfl) (by kernel_rfl) (by rw [Try.ntmps105]; simp only [List.length_cons, List.length_nil]; omega) (fun hf => ?_)
  rw [Try.results105]
  clear hf
  try simp -implicitDefEqProofs only [push_cast, Nat.reduceEqDiff, Nat.reduceBEq, Nat.reduceBNe, Nat.reduceAdd, Nat.reduceMul, Nat.reduceLT, Nat.reduceLeDiff, Nat.reduceSub, reduceCtorEq, Int.reduceToNat, ↓reduceIte]
  repeat'
    (first
     | (refine uYes ?_; first | exact List.mem_cons_self | (simp only [List.mem_cons, List.not_mem_nil, or_false, true_or, or_true]; done))
     | (refine uNo (by kernel_rfl))
     | (refine flatMk ?_; kernel_rfl)
     | (refine And.intro ?_ ?_)
     | (intro hx)
     | ((first
         | (refine inX_mk [] (by kernel_rfl) (by simp) ?_)
         | (refine callGF ?_)
         | (refine callQGF ?_)
         | (refine skipG ?_)
         | (refine callM (icloneR _ _ rfl) ?_)
         | (refine callX (by kernel_rfl) (fun _ hl => (icloneR _ _ hl)) ?_)
         | (refine callM (hcloneR _ _ rfl) ?_)
         | (refine callX (by kernel_rfl) (fun _ hl => (hcloneR _ _ hl)) ?_)); simp -implicitDefEqProofs only [push_cast, Nat.reduceEqDiff, Nat.reduceBEq, Nat.reduceBNe, Nat.reduceAdd, Nat.reduceMul, Nat.reduceLT, Nat.reduceLeDiff, Nat.reduceSub, reduceCtorEq, Int.reduceToNat, ↓reduceIte]))
  all_goals first
    | omega
    | exact fw_refl _ _ _
    | exact .agg _ (l.dvc_cl (by omega))
    | rfl
    | exact l.dvc_cl (by omega) _ hx
    | exact l.rows_cl _ _ hx
end Go.Proofs.Ytmehbbepppjikaa

namespace Go.Proofs.Ytmehbbepppjikaa
open Go.Av
set_option maxRecDepth 10000
set_option linter.unusedSimpArgs false
set_option linter.unusedVariables false

theorem indexHold_gives (xs : List Hold) (f : FuncId) (caps : List D) (h : Hp) (p : Hold → Bool) (hp : ∀ x : Hold, Gives Try.prog f (x.d :: caps) h (.bool (p x))) (hc : ∀ c, c ∈ caps → Cl h.length c) :
    Gives Try.prog 152 [.slice (xs.map Hold.d) .no, .fn f caps] h (.int .i64 (idxV p xs)) := by
  refine meets_of [] mixed Try.func152 rfl (by kernel_rfl) (by kernel_rfl) (by rw [Try.ntmps152]; simp only [List.length_cons, List.length_nil]; omega) (fun hf => ?_)
  rw [Try.results152]
  have hl : xs.length ≤ 1073741824 := by simpa using slice_fit (hf (.slice (xs.map Hold.d) .no) (by simp))
  clear hf
  simp -implicitDefEqProofs only [push_cast, Nat.reduceEqDiff, Nat.reduceBEq, Nat.reduceBNe, Nat.reduceAdd, Nat.reduceMul, Nat.reduceLT, Nat.reduceLeDiff, Nat.reduceSub, reduceCtorEq, Int.reduceToNat, ↓reduceIte]
  refine ev_loop0 [] (fun k : Nat => [(0, .slice (xs.map Hold.d) .no), (1, .fn f caps), (7, .int .i64 xs.length), (8, .int .i64 k)]) (fun k => k ≤ xs.length ∧ ∀ i, i < k → p (xs.getD i default) = false) (fun k => xs.length - k) 0 trivial ⟨Nat.zero_le _, fun i hi => absurd hi (Nat.not_lt_zero i)⟩ ?_ ?_
  · refine ⟨rfl, [], ?_⟩
    simp -implicitDefEqProofs only [Int.natCast_add, Int.cast_ofNat_Int, List.length_nil, Nat.le_refl, WeakTo, tokSts, tokOks, List.append_cancel_left_eq, exists_eq_left', exists_eq_left, List.append_cancel_left_eq, List.take_length, ObCl, and_true, true_and, push_cast, Nat.reduceEqDiff, Nat.reduceBEq, Nat.reduceBNe, Nat.reduceAdd, Nat.reduceMul, Nat.reduceLT, Nat.reduceLeDiff, Nat.reduceSub, reduceCtorEq, Int.reduceToNat, ↓reduceIte]
    exact hc
  · intro k hk
    have hw : IntKind.i64.wrap ((k : Int) + 1) = k + 1 := wrap_id (by omega) (by omega)
    try simp -implicitDefEqProofs only [hw, push_cast, Nat.reduceEqDiff, Nat.reduceBEq, Nat.reduceBNe, Nat.reduceAdd, Nat.reduceMul, Nat.reduceLT, Nat.reduceLeDiff, Nat.reduceSub, reduceCtorEq, Int.reduceToNat, ↓reduceIte]
    repeat'
      (first
       | (refine uYes ?_; first | exact List.mem_cons_self | (simp only [List.mem_cons, List.not_mem_nil, or_false, true_or, or_true]; done))
       | (refine uNo (by kernel_rfl))
       | (refine flatMk ?_; kernel_rfl)
       | (refine And.intro ?_ ?_)
       | (intro hx)
       | ((first
           | (refine callGF ?_)
           | (refine callQGF ?_)
           | (refine skipG ?_)
           | (refine callS (hp (xs.getD k default)) ?_)
           | (refine callQ (hp (xs.getD k default)) ?_)
           | (refine callG (fun hc => (hp (xs.getD k default))) ?_)
           | (refine callQG (fun hc => (hp (xs.getD k default))) ?_)); simp -implicitDefEqProofs only [hw, push_cast, Nat.reduceEqDiff, Nat.reduceBEq, Nat.reduceBNe, Nat.reduceAdd, Nat.reduceMul, Nat.reduceLT, Nat.reduceLeDiff, Nat.reduceSub, reduceCtorEq, Int.reduceToNat, ↓reduceIte]))
    all_goals first
      | omega
      | (refine round_mk0 (k + 1) ⟨by omega, fun i hi => ?_⟩ (by omega) ⟨[], ?_⟩
         · by_cases e : i = k
           · exact e ▸ hx
           · exact hk.2 i (by omega)
         · simp -implicitDefEqProofs only [hw, Int.natCast_add, Int.cast_ofNat_Int, List.length_nil, Nat.le_refl, WeakTo, tokSts, tokOks, List.append_cancel_left_eq, exists_eq_left', exists_eq_left, List.append_cancel_left_eq, List.take_length, ObCl, and_true, true_and, push_cast, Nat.reduceEqDiff, Nat.reduceBEq, Nat.reduceBNe, Nat.reduceAdd, Nat.reduceMul, Nat.reduceLT, Nat.reduceLeDiff, Nat.reduceSub, reduceCtorEq, Int.reduceToNat, ↓reduceIte]
           exact hc)
      | (rw [idxV_at default (by omega) hk.2 hx])
      | (rw [idxV_none default (fun i hi => hk.2 i (by omega))])
theorem held1_gives (o : Hold) (n : Int) (r : Nat) (h : Hp) (hr : ob h r = .row [.int .i64 n]) : Gives Try.prog 153 [o.d, .ptr r 0] h (.bool (decide (o.txn = n))) := by
  refine meets_of [] mixed Try.func153 rfl (by kernel_rfl) (by kernel_rfl) (by rw [Try.ntmps153]; simp only [List.length_cons, List.length_nil]; omega) (fun hf => ?_)
  rw [Try.results153]
  have hr' := fun ls => ob_old (ls := ls) hr
  try simp -implicitDefEqProofs only [hr', push_cast, Nat.reduceEqDiff, Nat.reduceBEq, Nat.reduceBNe, Nat.reduceAdd, Nat.reduceMul, Nat.reduceLT, Nat.reduceLeDiff, Nat.reduceSub, reduceCtorEq, Int.reduceToNat, ↓reduceIte]
  repeat'
    (first
     | (refine uYes ?_; first | exact List.mem_cons_self | (simp only [List.mem_cons, List.not_mem_nil, or_false, true_or, or_true]; done))
     | (refine uNo (by kernel_rfl))
     | (refine flatMk ?_; kernel_rfl)
     | (refine And.intro ?_ ?_)
     | (intro hx)
     | ((first
         | (refine callGF ?_)
         | (refine callQGF ?_)
         | (refine skipG ?_)
         | (refine callS (in_gives ..) ?_)
         | (refine callQ (in_gives ..) ?_)
         | (refine callG (fun hc => (in_gives ..)) ?_)
         | (refine callQG (fun hc => (in_gives ..)) ?_)); simp -implicitDefEqProofs only [hr', push_cast, Nat.reduceEqDiff, Nat.reduceBEq, Nat.reduceBNe, Nat.reduceAdd, Nat.reduceMul, Nat.reduceLT, Nat.reduceLeDiff, Nat.reduceSub, reduceCtorEq, Int.reduceToNat, ↓reduceIte]))
def heldIdx (l : Leg) (n : Int) : Int := idxV (fun o => decide (o.txn = n)) l.holds
theorem held_gives (l : Leg) (n : Int) (h : Hp) : Gives Try.prog 140 [l.d, .int .i64 n] h (.int .i64 (heldIdx l n)) := by
  refine meets_of [] mixed Try.func140 rfl (by kernel_rfl) (by kernel_rfl) (by rw [Try.ntmps140]; simp only [List.length_cons, List.length_nil]; omega) (fun hf => ?_)
  rw [Try.results140]
  clear hf
  have hcl : ∀ x : Ob, ∀ c, c ∈ [D.ptr (h.length + 1) 0] → Cl (h ++ [x, .row [.int .i64 n]]).length c := fun x c hc => by
    rw [List.mem_singleton.1 hc, List.length_append]
    exact .ptr _ _ (by simp)
  try simp -implicitDefEqProofs only [push_cast, Nat.reduceEqDiff, Nat.reduceBEq, Nat.reduceBNe, Nat.reduceAdd, Nat.reduceMul, Nat.reduceLT, Nat.reduceLeDiff, Nat.reduceSub, reduceCtorEq, Int.reduceToNat, ↓reduceIte]
  repeat'
    (first
     | (refine uYes ?_; first | exact List.mem_cons_self | (simp only [List.mem_cons, List.not_mem_nil, or_false, true_or, or_true]; done))
     | (refine uNo (by kernel_rfl))
     | (refine flatMk ?_; kernel_rfl)
     | (refine And.intro ?_ ?_)
     | (intro hx)
     | ((first
         | (refine callGF ?_)
         | (refine callQGF ?_)
         | (refine skipG ?_)
         | (refine callS (indexHold_gives l.holds _ _ _ (fun o => decide (o.txn = n)) (fun o => held1_gives o n _ _ (by simp only [ob_app, ob_succ, ob_zero])) (hcl _)) ?_)
         | (refine callQ (indexHold_gives l.holds _ _ _ (fun o => decide (o.txn = n)) (fun o => held1_gives o n _ _ (by simp only [ob_app, ob_succ, ob_zero])) (hcl _)) ?_)
         | (refine callG (fun hc => (indexHold_gives l.holds _ _ _ (fun o => decide (o.txn = n)) (fun o => held1_gives o n _ _ (by simp only [ob_app, ob_succ, ob_zero])) (hcl _))) ?_)
         | (refine callQG (fun hc => (indexHold_gives l.holds _ _ _ (fun o => decide (o.txn = n)) (fun o => held1_gives o n _ _ (by simp only [ob_app, ob_succ, ob_zero])) (hcl _))) ?_)); simp -implicitDefEqProofs only [push_cast, Nat.reduceEqDiff, Nat.reduceBEq, Nat.reduceBNe, Nat.reduceAdd, Nat.reduceMul, Nat.reduceLT, Nat.reduceLeDiff, Nat.reduceSub, reduceCtorEq, Int.reduceToNat, ↓reduceIte]))
  all_goals first
    | rfl
    | omega

theorem take_mid {A L z : List D} {n : Nat} (hA : A.length = n) (hL : L.length ≤ 3) : (A ++ L).take n ++ (z ++ (A ++ L).drop (n + 3)) = A ++ z := by
  rw [List.take_append_of_le_length (by omega), List.take_of_length_le (by omega), List.drop_eq_nil_of_le (by rw [List.length_append]; omega), List.append_nil]

theorem deleteR (xs : List Hold) (k r cp : Nat) (h : Hp) (hr : ob h r = .row (xs.flatMap Hold.cs)) (hrl : r < h.length) (hk : k < xs.length) (hcp : xs.length ≤ cp) (hl : xs.length ≤ 1073741824) :
    Meets Try.prog 141 [.vec r true 3 0 xs.length cp, .int .i64 k, .int .i64 (k + 1)] h fun d' h' => d' = .vec r true 3 0 (k + (xs.length - (k + 1))) cp ∧ h' = h.set r (.row ((xs.eraseIdx k).flatMap Hold.cs ++ [.int .i64 0, .int .i64 0, .int .i64 0])) := by
  refine meets_of [] mixed Try.func141 rfl (by kernel_rfl) (by kernel_rfl) (by rw [Try.ntmps141]; simp only [List.length_cons, List.length_nil]; omega) (fun hf => ?_)
  rw [Try.results141]
  clear hf
  have hd : decide ((k : Int) = (k : Int) + 1) = false := decide_eq_false (by omega)
  have hp : ((k : Int) + 1).toNat = k + 1 := by omega
  have hrow : (xs.flatMap Hold.cs).length = xs.length * 3 := flatMap_length (f := Hold.cs) (m := 3) (fun _ => rfl) xs
  have hE : k + (xs.length - (k + 1)) + 1 = xs.length := by omega
  have hM : ((k : Int) + ((xs.length - (k + 1) : Nat) : Int)).toNat = k + (xs.length - (k + 1)) := by omega
  have h1 : xs.length - (k + (xs.length - (k + 1))) = 1 := by omega
  have hz : ∀ z : List D, zeros z 1 = z := fun z => by simp [zeros]
  have hset : ∀ x, ob (h.set r x) r = x := fun x => by simp [ob, List.getD_eq_getElem?_getD, hrl]
  have hs : xs.flatMap Hold.cs = (xs.take k).flatMap Hold.cs ++ (xs[k].cs ++ (xs.drop (k + 1)).flatMap Hold.cs) := by
    conv => lhs; rw [← List.take_append_drop k xs, List.drop_eq_getElem_cons hk]
    rw [List.flatMap_append, List.flatMap_cons]
  have hlk : ((xs.take k).flatMap Hold.cs).length = k * 3 := by rw [flatMap_length (f := Hold.cs) (m := 3) (fun _ => rfl), List.length_take]; congr 1; omega
  have hld : ((xs.drop (k + 1)).flatMap Hold.cs).length = (xs.length - (k + 1)) * 3 := by rw [flatMap_length (f := Hold.cs) (m := 3) (fun _ => rfl), List.length_drop]
  have hpart : rowPart h r 3 (k + 1) (xs.length - (k + 1)) = (xs.drop (k + 1)).flatMap Hold.cs := by
    simp only [rowPart, hr, rowOf]
    rw [hs, List.drop_append, List.drop_eq_nil_of_le (by rw [hlk]; omega), List.nil_append, hlk, show (k + 1) * 3 - k * 3 = 3 by omega, List.drop_append, List.drop_eq_nil_of_le (by exact Nat.le_refl _), List.nil_append, show xs[k].cs.length = 3 from rfl, Nat.sub_self, List.drop_zero, List.take_of_length_le (by omega)]
  have he : (xs.eraseIdx k).flatMap Hold.cs = (xs.take k).flatMap Hold.cs ++ (xs.drop (k + 1)).flatMap Hold.cs := by
    rw [List.eraseIdx_eq_take_drop_succ, List.flatMap_append]
  have ht : (xs.flatMap Hold.cs).take (k * 3) = (xs.take k).flatMap Hold.cs := by
    rw [hs, List.take_append_of_le_length (by omega), List.take_of_length_le (by omega)]
  try simp -implicitDefEqProofs only [hr, hd, hp, hrow, hpart, hld, hset, hM, h1, hz, ht, hlk, List.set_set, push_cast, Nat.reduceEqDiff, Nat.reduceBEq, Nat.reduceBNe, Nat.reduceAdd, Nat.reduceMul, Nat.reduceLT, Nat.reduceLeDiff, Nat.reduceSub, reduceCtorEq, Int.reduceToNat, ↓reduceIte]
  repeat'
    (first
     | (refine uYes ?_; first | exact List.mem_cons_self | (simp only [List.mem_cons, List.not_mem_nil, or_false, true_or, or_true]; done))
     | (refine uNo (by kernel_rfl))
     | (refine flatMk ?_; kernel_rfl)
     | (refine And.intro ?_ ?_)
     | (intro hx)
     | ((first
         | (refine callGF ?_)
         | (refine callQGF ?_)
         | (refine skipG ?_)
         | (refine inX_mk [r] (by kernel_rfl) (fun t ht => by rw [List.mem_singleton.1 ht]; exact hrl) ?_)
         | (refine callS (in_gives _ _ _ _) ?_)
         | (refine callQ (in_gives _ _ _ _) ?_)
         | (refine callG (fun hc => (in_gives _ _ _ _)) ?_)
         | (refine callQG (fun hc => (in_gives _ _ _ _)) ?_)); simp -implicitDefEqProofs only [hr, hd, hp, hrow, hpart, hld, hset, hM, h1, hz, ht, hlk, List.set_set, push_cast, Nat.reduceEqDiff, Nat.reduceBEq, Nat.reduceBNe, Nat.reduceAdd, Nat.reduceMul, Nat.reduceLT, Nat.reduceLeDiff, Nat.reduceSub, reduceCtorEq, Int.reduceToNat, ↓reduceIte]))
  all_goals first
    | omega
    | exact holds_c1 _ _ hx
    | (simp only [List.length_set]; omega)
    | skip
  refine back_set ?_ hrl (fun d hd => ?_)
  · rw [he, ← List.append_assoc ((xs.take k).flatMap Hold.cs)]
    exact take_mid (z := [.int .i64 0, .int .i64 0, .int .i64 0]) (by rw [List.length_append, hlk, hld, Nat.add_mul]) (by rw [List.length_drop, hrow]; omega)
  · rcases List.mem_append.1 hd with hd | hd
    · exact holds_cl _ _ _ hd
    · simp only [List.mem_cons, List.not_mem_nil, or_false] at hd
      rcases hd with rfl | rfl | rfl <;> exact .int _ _
end Go.Proofs.Ytmehbbepppjikaa

namespace Go.Proofs.Ytmehbbepppjikaa
open Go.Av
set_option maxRecDepth 10000
set_option linter.unusedSimpArgs false
set_option linter.unusedVariables false

theorem fwl_of {n : Nat} {h : Hp} : ∀ {cs cs' : List D}, cs'.length = cs.length → (∀ j (h1 : j < cs.length) (h2 : j < cs'.length), FW n h (cs[j]) (cs'[j])) → FWL n h cs cs'
  | [], [], _, _ => trivial
  | [], _ :: _, hl, _ => absurd hl (by simp)
  | _ :: _, [], hl, _ => absurd hl (by simp)
  | a :: cs, b :: bs, hl, H => ⟨H 0 (by simp) (by simp), fwl_of (by simpa using hl) (fun j h1 h2 => H (j + 1) (by simpa using h1) (by simpa using h2))⟩
/-- a row seen as the slice of its first elements -/
theorem fw_row {α : Type} {g : α → D} {f : α → List D} {ag : Bool} {m : Nat} (hm : 0 < m) (hf : ∀ x, (g x).cells = f x) (hl : ∀ x, (f x).length = m) (hg : ∀ x, (if ag then D.agg (f x) else (f x).headD .junk) = g x) (h1 : ag = false → m = 1 ∧ ∀ x d, d ∈ f x → d.cells = [d]) (hc : ∀ x d, d ∈ f x → Cl 0 d)
    {n : Nat} {h : Hp} {r : Nat} {xs : List α} {rest : List D} {k cp : Nat} (hn : n ≤ r) (hr : ob h r = .row (xs.flatMap f ++ rest)) (hk : k = xs.length) : FW n h (.vec r ag m 0 k cp) (.slice (xs.map g) .no) := by
  subst hk
  have hlen : (xs.flatMap f).length = xs.length * m := flatMap_length hl xs
  have hp : rowPart h r m 0 xs.length = xs.flatMap f := by
    simp only [rowPart, hr, rowOf, Nat.zero_mul, List.drop_zero]
    rw [List.take_append_of_le_length (by omega), List.take_of_length_le (by omega)]
  refine (fw_vec _ _ _ _ _ _ _ _ _).2 ⟨⟨hn, by rw [hr]; trivial, ?_, ?_, hm, fun e => ⟨(h1 e).1, ?_⟩⟩, ?_⟩
  · rw [hr, Nat.zero_add]
    simp only [rowOf, List.length_append, hlen]
    omega
  · rw [hp]
    intro d hd
    obtain ⟨x, _, hd⟩ := List.mem_flatMap.1 hd
    exact hc x d hd
  · rw [hp]
    intro d hd
    obtain ⟨x, _, hd⟩ := List.mem_flatMap.1 hd
    exact (h1 e).2 x d hd
  · rw [hp]
    have := chunk_map (g := g) (ag := ag) (m := m) hm (fun x => by rw [hf]; exact hg x) (fun x => by rw [hf]; exact hl x) xs _ rfl
    simpa only [hf] using this
theorem fw_ints {n : Nat} {h : Hp} {r : Nat} {xs : List Int} {k cp : Nat} (hn : n ≤ r) (hr : ob h r = .row (xs.map (.int .i64))) (hk : k = xs.length) : FW n h (.vec r false 1 0 k cp) (.slice (xs.map (.int .i64)) .no) := by
  refine fw_row (ag := false) (m := 1) (g := D.int .i64) (f := fun x => [D.int .i64 x]) (rest := []) (by omega) (fun _ => rfl) (fun _ => rfl) (fun _ => rfl) (fun _ => ⟨rfl, fun x d hd => ?_⟩) (fun x d hd => ?_) hn ?_ hk
  · rw [List.mem_singleton.1 hd]; rfl
  · rw [List.mem_singleton.1 hd]; exact .int _ _
  · rw [hr, List.append_nil, List.map_eq_flatMap]
theorem fw_holds {n : Nat} {h : Hp} {r : Nat} {xs : List Hold} {rest : List D} {k cp : Nat} (hn : n ≤ r) (hr : ob h r = .row (xs.flatMap Hold.cs ++ rest)) (hk : k = xs.length) : FW n h (.vec r true 3 0 k cp) (.slice (xs.map Hold.d) .no) := by
  refine fw_row (ag := true) (m := 3) (g := Hold.d) (f := Hold.cs) (by omega) (fun _ => rfl) (fun _ => rfl) (fun _ => rfl) (fun e => nomatch e) (fun x d hd => ?_) hn hr hk
  simp only [Hold.cs, List.mem_cons, List.not_mem_nil, or_false] at hd
  rcases hd with rfl | rfl | rfl <;> exact .int _ _

/-- a leg in row r, its slices in the rows from q on -/
structure LegAt (h : Hp) (q : Nat) (l : Leg) : Prop where
  limits : ob h q = .row (l.limits.map (.int .i64))
  sold : ob h (q + 1) = .row (l.sold.map (.int .i64))
  bids : ob h (q + 2) = .row (l.bids.map (.int .i64))
  holds : ob h (q + 3) = .row (l.holds.flatMap Hold.cs)
  lt : q + 3 < h.length
theorem LegAt.fw {h : Hp} {q : Nat} {l : Leg} (H : LegAt h q l) : FW 0 h (.agg (l.dvc q)) l.d :=
  (fw_agg _ _ _ _).2 ⟨fw_refl _ _ _, fw_refl _ _ _, fw_refl _ _ _, fw_refl _ _ _, fw_refl _ _ _, fw_refl _ _ _, fw_ints (Nat.zero_le _) H.limits rfl, fw_ints (Nat.zero_le _) H.sold rfl, fw_ints (Nat.zero_le _) H.bids rfl, fw_holds (rest := []) (Nat.zero_le _) (by rw [List.append_nil]; exact H.holds) rfl, trivial⟩
theorem Leg.cl0 (l : Leg) (n : Nat) : Cl n l.d := .agg _ (l.cl n)

theorem holds_nm (xs : List Hold) (n : Nat) : ∀ x, x ∈ [Ob.row (xs.flatMap Hold.cs)] → NMob n x := by
  intro x hx
  rw [List.mem_singleton.1 hx]
  intro c hc
  obtain ⟨x, _, hd⟩ := List.mem_flatMap.1 hc
  simp only [Hold.cs, List.mem_cons, List.not_mem_nil, or_false] at hd
  rcases hd with rfl | rfl | rfl <;> exact .int _ _
theorem dropR_none (l : Leg) (r q : Nat) (n : Int) (keep : Bool) (h : Hp) (hr : ob h r = .row (l.dvc q)) (hrl : r < h.length) (H : LegAt h q l) (hn : heldIdx l n < 0) :
    Gives Try.prog 128 [.ptr r 0, .int .i64 n, .bool keep] h (.tup []) := by
  refine meets_of [] mixed Try.func128 rfl (by kernel_rfl) (by kernel_rfl) (by rw [Try.ntmps128]; simp only [List.length_cons, List.length_nil]; omega) (fun hf => ?_)
  rw [Try.results128]
  clear hf
  have hd : decide (heldIdx l n < 0) = true := decide_eq_true hn
  simp only [Leg.dvc] at hr
  try simp -implicitDefEqProofs only [hr, hd, push_cast, Nat.reduceEqDiff, Nat.reduceBEq, Nat.reduceBNe, Nat.reduceAdd, Nat.reduceMul, Nat.reduceLT, Nat.reduceLeDiff, Nat.reduceSub, reduceCtorEq, Int.reduceToNat, ↓reduceIte]
  repeat'
    (first
     | (refine uYes ?_; first | exact List.mem_cons_self | (simp only [List.mem_cons, List.not_mem_nil, or_false, true_or, or_true]; done))
     | (refine uNo (by kernel_rfl))
     | (refine flatMk ?_; kernel_rfl)
     | (refine And.intro ?_ ?_)
     | (intro hx)
     | ((first
         | (refine callGF ?_)
         | (refine callQGF ?_)
         | (refine skipG ?_)
         | (refine fzS (held_gives l n _) ⟨H.fw, l.cl0 0, fw_refl _ _ _, .int _ _, trivial⟩ (.int _ _) ?_)); simp -implicitDefEqProofs only [hr, hd, push_cast, Nat.reduceEqDiff, Nat.reduceBEq, Nat.reduceBNe, Nat.reduceAdd, Nat.reduceMul, Nat.reduceLT, Nat.reduceLeDiff, Nat.reduceSub, reduceCtorEq, Int.reduceToNat, ↓reduceIte]))
  all_goals first
    | omega
    | trace_state

/-- what is left of a leg in which what is held for a transaction is settled -/
def soldV (l : Leg) (k : Nat) (keep : Bool) : List Int := if keep then l.sold.set (l.holds.getD k default).cls.toNat (IntKind.i64.wrap (l.sold.getD (l.holds.getD k default).cls.toNat 0 + (l.holds.getD k default).seats)) else l.sold
theorem old_set {h hb : Hp} {N : Nat} (H : ∀ (k : Nat) y, hb[k]? = some y → h[k]? = some y ∨ ObCl N y) (a : Nat) {x : Ob} (hx : ObCl N x) : ∀ (k : Nat) y, (hb.set a x)[k]? = some y → h[k]? = some y ∨ ObCl N y := by
  intro k y hy
  rw [List.getElem?_set] at hy
  split at hy
  · split at hy
    · cases hy; exact .inr hx
    · cases hy
  · exact H k y hy
theorem back_mod {h hb rows : Hp} (hl : hb.length = h.length) (H : ∀ (k : Nat) y, hb[k]? = some y → h[k]? = some y ∨ ObCl (h.length + rows.length) y) (hr : ∀ x, x ∈ rows → ObCl (h.length + rows.length) x) : Back h (hb ++ rows) (hb ++ rows) := by
  refine ⟨by simp; omega, Nat.le_refl _, List.take_length, fun k x hx => ?_⟩
  rw [List.length_append, hl]
  by_cases hk : k < hb.length
  · rw [List.getElem?_append_left hk] at hx
    exact H k x hx
  · rw [List.getElem?_append_right (by omega)] at hx
    exact .inr (hr x (List.mem_of_getElem? hx))
theorem old_id (h : Hp) (N : Nat) : ∀ (k : Nat) y, h[k]? = some y → h[k]? = some y ∨ ObCl N y := fun _ _ e => .inl e
theorem ob_set_eq {h : Hp} {r : Nat} (hr : r < h.length) (x : Ob) : ob (h.set r x) r = x := by simp [ob, List.getD_eq_getElem?_getD, hr]
theorem ob_set_ne {h : Hp} {r s : Nat} (hr : s ≠ r) (x : Ob) : ob (h.set s x) r = ob h r := by simp only [ob, List.getD_eq_getElem?_getD, List.getElem?_set_ne hr]
theorem ob_app_l {h : Hp} {r : Nat} (hr : r < h.length) (ls : Hp) : ob (h ++ ls) r = ob h r := by simp only [ob, List.getD_eq_getElem?_getD, List.getElem?_append_left hr]

theorem hold_part (xs : List Hold) {k : Nat} (hk : k < xs.length) : ((xs.flatMap Hold.cs).drop (k * 3)).take 3 = (xs.getD k default).cs := by
  have hlk : ((xs.take k).flatMap Hold.cs).length = k * 3 := by rw [flatMap_length (f := Hold.cs) (m := 3) (fun _ => rfl), List.length_take]; congr 1; omega
  have hs : xs.flatMap Hold.cs = (xs.take k).flatMap Hold.cs ++ (xs[k].cs ++ (xs.drop (k + 1)).flatMap Hold.cs) := by
    conv => lhs; rw [← List.take_append_drop k xs, List.drop_eq_getElem_cons hk]
    rw [List.flatMap_append, List.flatMap_cons]
  rw [hs, List.drop_append, List.drop_eq_nil_of_le (by omega), List.nil_append, hlk, Nat.sub_self, List.drop_zero, List.take_append_of_le_length (by exact Nat.le_refl _), List.take_of_length_le (by exact Nat.le_refl _), List.getD_eq_getElem?_getD, List.getElem?_eq_getElem hk]
  rfl
theorem int_part (xs : List Int) {k : Nat} (hk : k < xs.length) : ((xs.drop k).map (D.int .i64)).headD .junk = .int .i64 (xs.getD k 0) := by
  rw [List.drop_eq_getElem_cons hk]
  simp [List.getD_eq_getElem?_getD, List.getElem?_eq_getElem hk]
theorem int_splice (xs : List Int) {k : Nat} (hk : k < xs.length) (n : Int) : (xs.take k).map (D.int .i64) ++ D.int .i64 n :: (xs.drop (k + 1)).map (D.int .i64) = (xs.set k n).map (D.int .i64) := by
  rw [← List.map_cons, ← List.map_append, List.set_eq_take_append_cons_drop, if_pos hk]

theorem cl_ints (xs : List Int) (n : Nat) : ObCl n (.row (xs.map (.int .i64))) := by
  intro c hc
  obtain ⟨x, _, rfl⟩ := List.mem_map.1 hc
  exact .int _ _
theorem cl_holds (xs : List Hold) (n : Nat) : ObCl n (.row (xs.flatMap Hold.cs)) := by
  intro c hc
  obtain ⟨x, _, hd⟩ := List.mem_flatMap.1 hc
  simp only [Hold.cs, List.mem_cons, List.not_mem_nil, or_false] at hd
  rcases hd with rfl | rfl | rfl <;> exact .int _ _
theorem cl_holds' (xs : List Hold) (n : Nat) (a b c : Int) : ObCl n (.row (xs.flatMap Hold.cs ++ [.int .i64 a, .int .i64 b, .int .i64 c])) := by
  intro d hd
  rcases List.mem_append.1 hd with hd | hd
  · exact cl_holds xs n d hd
  · simp only [List.mem_cons, List.not_mem_nil, or_false] at hd
    rcases hd with rfl | rfl | rfl <;> exact .int _ _
theorem cl_leg {n : Nat} (l : Leg) {a b c d : Nat} {x1 x2 y1 y2 z1 z2 w1 w2 : Nat} (ha : a < n) (hb : b < n) (hc : c < n) (hd : d < n) : ObCl n (.row [.str l.name, .str l.src, .str l.dst, .int .i64 l.dep, .int .i64 l.arr, .int .i64 l.cap, .vec a false 1 0 x1 x2, .vec b false 1 0 y1 y2, .vec c false 1 0 z1 z2, .vec d true 3 0 w1 w2]) := by
  intro e he
  simp only [List.mem_cons, List.not_mem_nil, or_false] at he
  rcases he with rfl | rfl | rfl | rfl | rfl | rfl | rfl | rfl | rfl | rfl
  · exact .str _
  · exact .str _
  · exact .str _
  · exact .int _ _
  · exact .int _ _
  · exact .int _ _
  · exact .vec _ _ _ _ _ _ ha
  · exact .vec _ _ _ _ _ _ hb
  · exact .vec _ _ _ _ _ _ hc
  · exact .vec _ _ _ _ _ _ hd
theorem back_drop {h h0 : Hp} {r q k : Nat} {l : Leg} {rw : List D} (hd : Hold) (xs : List Hold) (hrw : ObCl (h.length + 2) (.row rw)) (h0l : h0.length = h.length) (h00 : ∀ (k : Nat) y, h0[k]? = some y → h[k]? = some y ∨ ObCl (h.length + 2) y) :
    Back h (((h0.set (q + 3) (.row (xs.flatMap Hold.cs ++ [.int .i64 0, .int .i64 0, .int .i64 0]))).set r (.row rw)) ++ [.row hd.cs, .row (xs.flatMap Hold.cs)]) (((h0.set (q + 3) (.row (xs.flatMap Hold.cs ++ [.int .i64 0, .int .i64 0, .int .i64 0]))).set r (.row rw)) ++ [.row hd.cs, .row (xs.flatMap Hold.cs)]) := by
  refine back_mod (by simp [h0l]) (old_set (old_set h00 _ (cl_holds' _ _ _ _ _)) _ hrw) fun x hx => ?_
  simp only [List.mem_cons, List.not_mem_nil, or_false] at hx
  rcases hx with rfl | rfl
  · intro c hc
    simp only [Hold.cs, List.mem_cons, List.not_mem_nil, or_false] at hc
    rcases hc with rfl | rfl | rfl <;> exact .int _ _
  · exact cl_holds _ _

theorem dropR_some (l : Leg) (r q k : Nat) (n : Int) (keep : Bool) (h : Hp) (hr : ob h r = .row (l.dvc q)) (hrl : r < h.length) (H : LegAt h q l) (hrq : r < q ∨ q + 3 < r) (hn : heldIdx l n = k) (hk : k < l.holds.length) (hc : 0 ≤ (l.holds.getD k default).cls ∧ (l.holds.getD k default).cls < l.sold.length) (hh : l.holds.length ≤ 1073741824) :
    Meets Try.prog 128 [.ptr r 0, .int .i64 n, .bool keep] h fun d' h' => d' = .tup [] ∧
      h' = (((if keep then h.set (q + 1) (.row ((soldV l k keep).map (.int .i64))) else h).set (q + 3) (.row ((l.holds.eraseIdx k).flatMap Hold.cs ++ [.int .i64 0, .int .i64 0, .int .i64 0]))).set r (.row (splice (l.dvc q) 9 [.vec (h.length + 1) true 3 0 (l.holds.length - 1) (l.holds.length - 1)]))) ++
        [.row (l.holds.getD k default).cs, .row ((l.holds.eraseIdx k).flatMap Hold.cs)] := by
  refine meets_of [] mixed Try.func128 rfl (by kernel_rfl) (by kernel_rfl) (by rw [Try.ntmps128]; simp only [List.length_cons, List.length_nil]; omega) (fun hf => ?_)
  rw [Try.results128]
  clear hf
  have hd : decide (heldIdx l n < 0) = false := decide_eq_false (by omega)
  have hlen : (l.holds.flatMap Hold.cs).length = l.holds.length * 3 := flatMap_length (f := Hold.cs) (m := 3) (fun _ => rfl) _
  have hl1 := H.lt
  have hh0 := H.holds
  have hs0 := H.sold
  have hw : IntKind.i64.wrap ((k : Int) + 1) = k + 1 := wrap_id (by omega) (by omega)
  have helt := hold_part l.holds hk
  have hE : k + (l.holds.length - (k + 1)) = l.holds.length - 1 := by omega
  have hel : (l.holds.eraseIdx k).length = l.holds.length - 1 := by rw [List.length_eraseIdx, if_pos hk]
  have hcn : (l.holds.getD k default).cls.toNat < l.sold.length := by omega
  have hip := int_part l.sold hcn
  have his := fun v => int_splice l.sold hcn v
  have hrx := hr
  simp only [Leg.dvc] at hr
  have a1 : ∀ ls, ob (h ++ ls) r = ob h r := ob_app_l hrl
  have a2 : ∀ ls, ob (h ++ ls) (q + 1) = ob h (q + 1) := ob_app_l (by omega)
  have a3 : ∀ ls, ob (h ++ ls) (q + 3) = ob h (q + 3) := ob_app_l (by omega)
  have s1 : ∀ ls x, (h ++ ls).set (q + 1) x = h.set (q + 1) x ++ ls := fun ls x => List.set_append_left _ _ (by omega)
  have s3 : ∀ (h' : Hp) ls x, h'.length = h.length → (h' ++ ls).set (q + 3) x = h'.set (q + 3) x ++ ls := fun h' ls x e => List.set_append_left _ _ (by omega)
  cases keep with
  | true =>
    have b1 : ∀ x ls, ob (h.set (q + 1) x ++ ls) r = ob h r := fun x ls => by rw [ob_app_l (by simp; omega), ob_set_ne (by omega)]
    have b3 : ∀ x ls, ob (h.set (q + 1) x ++ ls) (q + 3) = ob h (q + 3) := fun x ls => by rw [ob_app_l (by simp; omega), ob_set_ne (by omega)]
    have c1 : ∀ x y ls, ob ((h.set (q + 1) x).set (q + 3) y ++ ls) r = ob h r := fun x y ls => by rw [ob_app_l (by simp; omega), ob_set_ne (by omega), ob_set_ne (by omega)]
    have c3 : ∀ x y ls, ob ((h.set (q + 1) x).set (q + 3) y ++ ls) (q + 3) = y := fun x y ls => by rw [ob_app_l (by simp; omega), ob_set_eq (by simp; omega)]
    have t3 : ∀ x y ls, (h.set (q + 1) x ++ ls).set (q + 3) y = (h.set (q + 1) x).set (q + 3) y ++ ls := fun x y ls => List.set_append_left _ _ (by simp; omega)
    have t5 : ∀ x y z ls, ((h.set (q + 1) x).set (q + 3) y ++ ls).set r z = ((h.set (q + 1) x).set (q + 3) y).set r z ++ ls := fun x y z ls => List.set_append_left _ _ (by simp; omega)
    try simp -implicitDefEqProofs only [hr, hd, hh0, hs0, hlen, hn, helt, hw, hE, hel, hip, his, a1, a2, a3, s1, b1, b3, c1, c3, t3, t5, List.length_set, push_cast, Nat.reduceEqDiff, Nat.reduceBEq, Nat.reduceBNe, Nat.reduceAdd, Nat.reduceMul, Nat.reduceLT, Nat.reduceLeDiff, Nat.reduceSub, reduceCtorEq, Int.reduceToNat, ↓reduceIte]
    repeat'
      (first
       | (refine uYes ?_; first | exact List.mem_cons_self | (simp only [List.mem_cons, List.not_mem_nil, or_false, true_or, or_true]; done))
       | (refine uNo (by kernel_rfl))
       | (refine flatMk ?_; kernel_rfl)
       | (refine And.intro ?_ ?_)
       | (intro hx)
       | ((first
           | (refine inX_mk [] (by kernel_rfl) (by simp) ?_)
           | (refine callGF ?_)
           | (refine callQGF ?_)
           | (refine skipG ?_)
           | (refine fzS (held_gives l n _) ⟨H.fw, l.cl0 0, fw_refl _ _ _, .int _ _, trivial⟩ (.int _ _) ?_)
           | (refine callM (deleteR l.holds k (q + 3) l.holds.length _ (by rw [b3]; exact hh0) (by simp; omega) hk (Nat.le_refl _) hh) ?_)
           | (refine fzM (hcloneR (l.holds.eraseIdx k) (deadOf _) (deadOf_length _)) ⟨fw_holds (rest := [.int .i64 0, .int .i64 0, .int .i64 0]) (Nat.zero_le _) (c3 _ _ _) hel.symm, .slice _ _ (fun _ _ e => nomatch e), trivial⟩ (.vec _ _ _ _ _ _ (Nat.le_refl _)) (holds_nm _ _) ?_)); simp -implicitDefEqProofs only [hr, hd, hh0, hs0, hlen, hn, helt, hw, hE, hel, hip, his, a1, a2, a3, s1, b1, b3, c1, c3, t3, t5, List.length_set, push_cast, Nat.reduceEqDiff, Nat.reduceBEq, Nat.reduceBNe, Nat.reduceAdd, Nat.reduceMul, Nat.reduceLT, Nat.reduceLeDiff, Nat.reduceSub, reduceCtorEq, Int.reduceToNat, ↓reduceIte]))
    all_goals first
      | omega
      | exact back_drop (l := l) (k := k) (l.holds.getD k default) (l.holds.eraseIdx k) (cl_leg l (by omega) (by omega) (by omega) (by omega)) (by simp) (old_set (old_id h _) _ (cl_ints _ _))
      | trace_state
  | false =>
    have g1 : ∀ y ls, ob (h.set (q + 3) y ++ ls) r = ob h r := fun y ls => by rw [ob_app_l (by simp; omega), ob_set_ne (by omega)]
    have g3 : ∀ y ls, ob (h.set (q + 3) y ++ ls) (q + 3) = y := fun y ls => by rw [ob_app_l (by simp; omega), ob_set_eq (by omega)]
    have u3 : ∀ y ls, (h ++ ls).set (q + 3) y = h.set (q + 3) y ++ ls := fun y ls => List.set_append_left _ _ (by omega)
    have u5 : ∀ y z ls, (h.set (q + 3) y ++ ls).set r z = (h.set (q + 3) y).set r z ++ ls := fun y z ls => List.set_append_left _ _ (by simp; omega)
    try simp -implicitDefEqProofs only [hr, hd, hh0, hs0, hlen, hn, helt, hw, hE, hel, hip, his, a1, a2, a3, g1, g3, u3, u5, List.length_set, push_cast, Nat.reduceEqDiff, Nat.reduceBEq, Nat.reduceBNe, Nat.reduceAdd, Nat.reduceMul, Nat.reduceLT, Nat.reduceLeDiff, Nat.reduceSub, reduceCtorEq, Int.reduceToNat, ↓reduceIte]
    repeat'
      (first
       | (refine uYes ?_; first | exact List.mem_cons_self | (simp only [List.mem_cons, List.not_mem_nil, or_false, true_or, or_true]; done))
       | (refine uNo (by kernel_rfl))
       | (refine flatMk ?_; kernel_rfl)
       | (refine And.intro ?_ ?_)
       | (intro hx)
       | ((first
           | (refine inX_mk [] (by kernel_rfl) (by simp) ?_)
           | (refine callGF ?_)
           | (refine callQGF ?_)
           | (refine skipG ?_)
           | (refine fzS (held_gives l n _) ⟨H.fw, l.cl0 0, fw_refl _ _ _, .int _ _, trivial⟩ (.int _ _) ?_)
           | (refine callM (deleteR l.holds k (q + 3) l.holds.length _ (by rw [a3]; exact hh0) (by simp; omega) hk (Nat.le_refl _) hh) ?_)
           | (refine fzM (hcloneR (l.holds.eraseIdx k) (deadOf _) (deadOf_length _)) ⟨fw_holds (rest := [.int .i64 0, .int .i64 0, .int .i64 0]) (Nat.zero_le _) (g3 _ _) hel.symm, .slice _ _ (fun _ _ e => nomatch e), trivial⟩ (.vec _ _ _ _ _ _ (Nat.le_refl _)) (holds_nm _ _) ?_)); simp -implicitDefEqProofs only [hr, hd, hh0, hs0, hlen, hn, helt, hw, hE, hel, hip, his, a1, a2, a3, g1, g3, u3, u5, List.length_set, push_cast, Nat.reduceEqDiff, Nat.reduceBEq, Nat.reduceBNe, Nat.reduceAdd, Nat.reduceMul, Nat.reduceLT, Nat.reduceLeDiff, Nat.reduceSub, reduceCtorEq, Int.reduceToNat, ↓reduceIte]))
    all_goals first
      | omega
      | exact back_drop (l := l) (k := k) (l.holds.getD k default) (l.holds.eraseIdx k) (cl_leg l (by omega) (by omega) (by omega) (by omega)) rfl (old_id h _)
      | trace_state
end Go.Proofs.Ytmehbbepppjikaa

namespace Go.Proofs.Ytmehbbepppjikaa
open Go.Av
set_option maxRecDepth 10000
set_option linter.unusedSimpArgs false
set_option linter.unusedVariables false

/-- how many elements at the front have a property -/
def whileN {α : Type} (p : α → Bool) : List α → Nat
  | [] => 0
  | x :: xs => if p x then whileN p xs + 1 else 0
theorem whileN_le {α : Type} (p : α → Bool) : ∀ xs, whileN p xs ≤ xs.length
  | [] => Nat.le_refl _
  | x :: xs => by
    have := whileN_le p xs
    simp only [whileN, List.length_cons]
    split <;> omega
theorem whileN_at {α : Type} {p : α → Bool} (d : α) : ∀ {xs : List α} {k : Nat}, k ≤ xs.length → (∀ i, i < k → p (xs.getD i d) = true) → (k < xs.length → p (xs.getD k d) = false) → whileN p xs = k
  | [], k, hk, _, _ => by simp only [List.length_nil] at hk; simp only [whileN]; omega
  | x :: xs, 0, _, _, h => by
    have h0 := h (by simp)
    simp only [List.getD_cons_zero] at h0
    simp [whileN, h0]
  | x :: xs, k + 1, hk, h, h' => by
    have h0 := h 0 (by omega)
    simp only [List.getD_cons_zero] at h0
    simp only [whileN, h0, if_true]
    rw [whileN_at d (k := k) (by simpa using hk) (fun i hi => by simpa using h (i + 1) (by omega)) (fun hi => by simpa using h' (by simpa using hi))]
theorem whileN_lt {α : Type} {p : α → Bool} (d : α) : ∀ {xs : List α} {i : Nat}, i < whileN p xs → p (xs.getD i d) = true
  | [], i, h => by simp [whileN] at h
  | x :: xs, 0, h => by
    simp only [whileN] at h
    split at h
    · simpa
    · omega
  | x :: xs, i + 1, h => by
    simp only [whileN] at h
    split at h
    · simpa using whileN_lt d (xs := xs) (i := i) (by omega)
    · omega
def placeN (l : Leg) (n : Int) : Nat := whileN (fun o => decide (o.txn < n)) l.holds
def thereB (l : Leg) (n : Int) : Bool := decide (placeN l n < l.holds.length) && decide ((l.holds.getD (placeN l n) default).txn = n)
theorem l6Held_gives (l : Leg) (n : Int) (h : Hp) : Gives Try.prog 129 [l.d, .int .i64 n] h (.tup [.int .i64 (placeN l n), .bool (thereB l n)]) := by
  refine meets_of [] mixed Try.func129 rfl (by kernel_rfl) (by kernel_rfl) (by rw [Try.ntmps129]; simp only [List.length_cons, List.length_nil]; omega) (fun hf => ?_)
  rw [Try.results129]
  obtain ⟨_, _, _, _, _, hf1, hf2⟩ := Leg.fit (hf l.d (by simp))
  clear hf
  simp -implicitDefEqProofs only [push_cast, Nat.reduceEqDiff, Nat.reduceBEq, Nat.reduceBNe, Nat.reduceAdd, Nat.reduceMul, Nat.reduceLT, Nat.reduceLeDiff, Nat.reduceSub, reduceCtorEq, Int.reduceToNat, ↓reduceIte]
  refine ev_loop [] (fun k : Nat => [(1, .int .i64 n), (2, .ptr h.length 0), (6, .int .i64 k)])
    (fun _ => [.row l.cs]) (fun k => k ≤ l.holds.length ∧ ∀ i, i < k → (l.holds.getD i default).txn < n) (fun k => l.holds.length - k) 0 trivial ⟨Nat.zero_le _, fun i hi => absurd hi (Nat.not_lt_zero i)⟩ ?_ ?_
  · refine ⟨1, by simp, by simp [tokSts], ?_⟩
    simp -implicitDefEqProofs only [Int.natCast_add, Int.cast_ofNat_Int, List.length_nil, Nat.le_refl, WeakTo, tokSts, tokOks, List.append_cancel_left_eq, exists_eq_left', exists_eq_left, List.append_cancel_left_eq, List.take_length, ObCl, and_true, true_and, push_cast, Nat.reduceEqDiff, Nat.reduceBEq, Nat.reduceBNe, Nat.reduceAdd, Nat.reduceMul, Nat.reduceLT, Nat.reduceLeDiff, Nat.reduceSub, reduceCtorEq, Int.reduceToNat, ↓reduceIte]
  · intro k hk
    have hw : IntKind.i64.wrap ((k : Int) + 1) = k + 1 := wrap_id (by omega) (by omega)
    try simp -implicitDefEqProofs only [hw, push_cast, Nat.reduceEqDiff, Nat.reduceBEq, Nat.reduceBNe, Nat.reduceAdd, Nat.reduceMul, Nat.reduceLT, Nat.reduceLeDiff, Nat.reduceSub, reduceCtorEq, Int.reduceToNat, ↓reduceIte]
    repeat'
      (first
       | (refine uYes ?_; first | exact List.mem_cons_self | (simp only [List.mem_cons, List.not_mem_nil, or_false, true_or, or_true]; done))
       | (refine uNo (by kernel_rfl))
       | (refine flatMk ?_; kernel_rfl)
       | (refine And.intro ?_ ?_)
       | (intro hx)
       | ((first
           | (refine callGF ?_)
           | (refine callQGF ?_)
           | (refine skipG ?_)
           | (refine callS (in_gives ..) ?_)
           | (refine callQ (in_gives ..) ?_)
           | (refine callG (fun hc => (in_gives ..)) ?_)
           | (refine callQG (fun hc => (in_gives ..)) ?_)); simp -implicitDefEqProofs only [hw, push_cast, Nat.reduceEqDiff, Nat.reduceBEq, Nat.reduceBNe, Nat.reduceAdd, Nat.reduceMul, Nat.reduceLT, Nat.reduceLeDiff, Nat.reduceSub, reduceCtorEq, Int.reduceToNat, ↓reduceIte]))
    all_goals first
      | omega
      | (refine round_mk (k + 1) ⟨by omega, fun i hi => ?_⟩ (by omega) ?_
         · by_cases e : i = k
           · subst e; exact hx.2
           · exact hk.2 i (by omega)
         · simp -implicitDefEqProofs only [hw, Int.natCast_add, Int.cast_ofNat_Int, List.length_nil, Nat.le_refl, WeakTo, tokSts, tokOks, List.append_cancel_left_eq, exists_eq_left', exists_eq_left, List.append_cancel_left_eq, List.take_length, ObCl, and_true, true_and, push_cast, Nat.reduceEqDiff, Nat.reduceBEq, Nat.reduceBNe, Nat.reduceAdd, Nat.reduceMul, Nat.reduceLT, Nat.reduceLeDiff, Nat.reduceSub, reduceCtorEq, Int.reduceToNat, ↓reduceIte])
      | (have e : placeN l n = k := whileN_at default hk.1 (fun i hi => decide_eq_true (hk.2 i hi)) (by grind)
         simp only [thereB, e]
         try grind)
      | trace_state

theorem thereB_t {l : Leg} {n : Int} (h : thereB l n = true) : placeN l n < l.holds.length := by
  simp only [thereB, Bool.and_eq_true, decide_eq_true_eq] at h
  exact h.1
def dropL (l : Leg) (n : Int) : Leg := if thereB l n then { l with holds := l.holds.eraseIdx (placeN l n) } else l
theorem l6Drop_gives (l : Leg) (n : Int) (h : Hp) : Gives Try.prog 100 [l.d, .int .i64 n] h (dropL l n).d := by
  cases ht : thereB l n with
  | false =>
    rw [dropL, ht]
    show Gives _ _ _ _ l.d
    refine meets_of [] mixed Try.func100 rfl (by kernel_rfl) (by kernel_rfl) (by rw [Try.ntmps100]; simp only [List.length_cons, List.length_nil]; omega) (fun hf => ?_)
    rw [Try.results100]
    try simp -implicitDefEqProofs only [ht, push_cast, Nat.reduceEqDiff, Nat.reduceBEq, Nat.reduceBNe, Nat.reduceAdd, Nat.reduceMul, Nat.reduceLT, Nat.reduceLeDiff, Nat.reduceSub, reduceCtorEq, Int.reduceToNat, ↓reduceIte]
    repeat'
      (first
       | (refine uYes ?_; first | exact List.mem_cons_self | (simp only [List.mem_cons, List.not_mem_nil, or_false, true_or, or_true]; done))
       | (refine uNo (by kernel_rfl))
       | (refine flatMk ?_; kernel_rfl)
       | (refine And.intro ?_ ?_)
       | (intro hx)
       | ((first
           | (refine callGF ?_)
           | (refine callQGF ?_)
           | (refine skipG ?_)
           | (refine callS (l6Held_gives l n _) ?_)
           | (refine callQ (l6Held_gives l n _) ?_)
           | (refine callG (fun hc => (l6Held_gives l n _)) ?_)
           | (refine callQG (fun hc => (l6Held_gives l n _)) ?_)); simp -implicitDefEqProofs only [ht, push_cast, Nat.reduceEqDiff, Nat.reduceBEq, Nat.reduceBNe, Nat.reduceAdd, Nat.reduceMul, Nat.reduceLT, Nat.reduceLeDiff, Nat.reduceSub, reduceCtorEq, Int.reduceToNat, ↓reduceIte]))
    all_goals rfl
  | true =>
    rw [dropL, ht]
    show Gives _ _ _ _ (Leg.d { l with holds := l.holds.eraseIdx (placeN l n) })
    refine meets_of [] mixed Try.func100 rfl (by kernel_rfl) (by kernel_rfl) (by rw [Try.ntmps100]; simp only [List.length_cons, List.length_nil]; omega) (fun hf => ?_)
    rw [Try.results100]
    obtain ⟨_, _, _, _, _, hf1, hf2⟩ := Leg.fit (hf l.d (by simp))
    clear hf
    have hk := thereB_t ht
    have hw : IntKind.i64.wrap ((placeN l n : Int) + 1) = placeN l n + 1 := wrap_id (by omega) (by omega)
    have hp : ((placeN l n : Int) + 1).toNat = placeN l n + 1 := by omega
    have hmin : min (placeN l n) l.holds.length = placeN l n := by omega
    try simp -implicitDefEqProofs only [ht, hw, hp, lenMax, hmin, push_cast, Nat.reduceEqDiff, Nat.reduceBEq, Nat.reduceBNe, Nat.reduceAdd, Nat.reduceMul, Nat.reduceLT, Nat.reduceLeDiff, Nat.reduceSub, reduceCtorEq, Int.reduceToNat, ↓reduceIte]
    repeat'
      (first
       | (refine uYes ?_; first | exact List.mem_cons_self | (simp only [List.mem_cons, List.not_mem_nil, or_false, true_or, or_true]; done))
       | (refine uNo (by kernel_rfl))
       | (refine flatMk ?_; kernel_rfl)
       | (refine And.intro ?_ ?_)
       | (intro hx)
       | ((first
           | (refine inX_mk [] (by kernel_rfl) (by simp) ?_)
           | (refine callGF ?_)
           | (refine callQGF ?_)
           | (refine skipG ?_)
           | (refine callS (l6Held_gives l n _) ?_)
           | (refine callQ (l6Held_gives l n _) ?_)
           | (refine callG (fun hc => (l6Held_gives l n _)) ?_)
           | (refine callQG (fun hc => (l6Held_gives l n _)) ?_)
           | (refine callXG (fun _ => (l6Held_gives l n _)) ?_)); simp -implicitDefEqProofs only [ht, hw, hp, lenMax, hmin, push_cast, Nat.reduceEqDiff, Nat.reduceBEq, Nat.reduceBNe, Nat.reduceAdd, Nat.reduceMul, Nat.reduceLT, Nat.reduceLeDiff, Nat.reduceSub, reduceCtorEq, Int.reduceToNat, ↓reduceIte]))
    all_goals first
      | omega
      | (rw [List.eraseIdx_eq_take_drop_succ, List.map_append]; done)
      | exact holds_c1 _ _ hx
      | trace_state

theorem rp_ints {h rows : Hp} {k n : Nat} {xs : List Int} (hr : ob rows k = .row (xs.map (.int .i64))) (hn : n = xs.length) : rowPart (h ++ rows) (h.length + k) 1 0 n = xs.map (.int .i64) := by
  subst hn
  rw [rowPart, ob_app, hr]
  show ((xs.map (D.int .i64)).drop (0 * 1)).take (xs.length * 1) = _
  rw [Nat.zero_mul, List.drop_zero, List.take_of_length_le (by simp)]
theorem chunk_ints (xs : List Int) (n : Nat) (hn : n = xs.length) : chunk false 1 n (xs.map (.int .i64)) = xs.map (.int .i64) := by
  have := chunk_map (g := D.int .i64) (ag := false) (m := 1) (by omega) (fun _ => rfl) (fun _ => rfl) xs n hn
  rwa [show xs.flatMap (fun x => (D.int .i64 x).cells) = xs.map (D.int .i64) from (List.map_eq_flatMap ..).symm] at this
def keepL (l : Leg) (n : Int) : Leg := if thereB l n then { l with sold := soldV l (placeN l n) true, holds := l.holds.eraseIdx (placeN l n) } else l
theorem l6Keep_gives (l : Leg) (n : Int) (h : Hp) (hc : thereB l n = true → 0 ≤ (l.holds.getD (placeN l n) default).cls ∧ (l.holds.getD (placeN l n) default).cls < l.sold.length) : Gives Try.prog 99 [l.d, .int .i64 n] h (keepL l n).d := by
  cases ht : thereB l n with
  | false =>
    rw [keepL, ht]
    show Gives _ _ _ _ l.d
    refine meets_of [] mixed Try.func99 rfl (by kernel_rfl) (by kernel_rfl) (by rw [Try.ntmps99]; simp only [List.length_cons, List.length_nil]; omega) (fun hf => ?_)
    rw [Try.results99]
    try simp -implicitDefEqProofs only [ht, push_cast, Nat.reduceEqDiff, Nat.reduceBEq, Nat.reduceBNe, Nat.reduceAdd, Nat.reduceMul, Nat.reduceLT, Nat.reduceLeDiff, Nat.reduceSub, reduceCtorEq, Int.reduceToNat, ↓reduceIte]
    repeat'
      (first
       | (refine uYes ?_; first | exact List.mem_cons_self | (simp only [List.mem_cons, List.not_mem_nil, or_false, true_or, or_true]; done))
       | (refine uNo (by kernel_rfl))
       | (refine flatMk ?_; kernel_rfl)
       | (refine And.intro ?_ ?_)
       | (intro hx)
       | ((first
           | (refine callGF ?_)
           | (refine callQGF ?_)
           | (refine skipG ?_)
           | (refine callS (l6Held_gives l n _) ?_)
           | (refine callQ (l6Held_gives l n _) ?_)
           | (refine callG (fun hc => (l6Held_gives l n _)) ?_)
           | (refine callQG (fun hc => (l6Held_gives l n _)) ?_)); simp -implicitDefEqProofs only [ht, push_cast, Nat.reduceEqDiff, Nat.reduceBEq, Nat.reduceBNe, Nat.reduceAdd, Nat.reduceMul, Nat.reduceLT, Nat.reduceLeDiff, Nat.reduceSub, reduceCtorEq, Int.reduceToNat, ↓reduceIte]))
    all_goals rfl
  | true =>
    have hcc := hc ht
    rw [keepL, ht]
    show Gives _ _ _ _ (Leg.d { l with sold := soldV l (placeN l n) true, holds := l.holds.eraseIdx (placeN l n) })
    have hd0 : dropL l n = { l with holds := l.holds.eraseIdx (placeN l n) } := by rw [dropL, ht]; rfl
    refine meets_of [28] mixed Try.func99 rfl (by kernel_rfl) (by kernel_rfl) (by rw [Try.ntmps99]; simp only [List.length_cons, List.length_nil]; omega) (fun hf => ?_)
    rw [Try.results99]
    obtain ⟨_, _, _, _, _, hf1, hf2⟩ := Leg.fit (hf l.d (by simp))
    clear hf
    have hk := thereB_t ht
    have hcn : (l.holds.getD (placeN l n) default).cls.toNat < l.sold.length := by omega
    have hip := int_part l.sold hcn
    have his := fun v => int_splice l.sold hcn v
    have hrp : ∀ a b c v, rowPart (h ++ [a, b, c, .row ((l.sold.set (l.holds.getD (placeN l n) default).cls.toNat v).map (.int .i64))]) (h.length + 3) 1 0 l.sold.length = (l.sold.set (l.holds.getD (placeN l n) default).cls.toNat v).map (.int .i64) := fun a b c v => rp_ints rfl (by simp)
    try simp -implicitDefEqProofs only [ht, hd0, hip, his, lenMax, hrp, List.length_set, push_cast, Nat.reduceEqDiff, Nat.reduceBEq, Nat.reduceBNe, Nat.reduceAdd, Nat.reduceMul, Nat.reduceLT, Nat.reduceLeDiff, Nat.reduceSub, reduceCtorEq, Int.reduceToNat, ↓reduceIte]
    repeat'
      (first
       | (refine uYes ?_; first | exact List.mem_cons_self | (simp only [List.mem_cons, List.not_mem_nil, or_false, true_or, or_true]; done))
       | (refine uNo (by kernel_rfl))
       | (refine flatMk ?_; kernel_rfl)
       | (refine And.intro ?_ ?_)
       | (intro hx)
       | ((first
           | (refine inX_mk [] (by kernel_rfl) (by simp) ?_)
           | (refine callGF ?_)
           | (refine callQGF ?_)
           | (refine skipG ?_)
           | (refine callS (l6Held_gives l n _) ?_)
           | (refine callQ (l6Held_gives l n _) ?_)
           | (refine callG (fun hc => (l6Held_gives l n _)) ?_)
           | (refine callQG (fun hc => (l6Held_gives l n _)) ?_)
           | (refine callXG (fun _ => (l6Held_gives l n _)) ?_)
           | (refine callS (l6Drop_gives l n _) ?_)
           | (refine callQ (l6Drop_gives l n _) ?_)
           | (refine callG (fun hc => (l6Drop_gives l n _)) ?_)
           | (refine callQG (fun hc => (l6Drop_gives l n _)) ?_)
           | (refine callXG (fun _ => (l6Drop_gives l n _)) ?_)); simp -implicitDefEqProofs only [ht, hd0, hip, his, lenMax, hrp, List.length_set, push_cast, Nat.reduceEqDiff, Nat.reduceBEq, Nat.reduceBNe, Nat.reduceAdd, Nat.reduceMul, Nat.reduceLT, Nat.reduceLeDiff, Nat.reduceSub, reduceCtorEq, Int.reduceToNat, ↓reduceIte]))
    all_goals first
      | omega
      | exact ints_c1 _ _ hx
      | exact ints_cl _ _ _ hx
      | exact chunk_ints _ _ (by simp)
      | (obtain ⟨y, _, rfl⟩ := List.mem_map.1 hx; rfl)
      | trace_state

theorem l6Copy_gives (l : Leg) (h : Hp) : Gives Try.prog 98 [l.d] h l.d := by
  refine meets_of [] mixed Try.func98 rfl (by kernel_rfl) (by kernel_rfl) (by rw [Try.ntmps98]; simp only [List.length_cons, List.length_nil]; omega) (fun hf => ?_)
  rw [Try.results98]
  obtain ⟨_, _, _, hf1, hf2, hf3, hf4⟩ := Leg.fit (hf l.d (by simp))
  clear hf
  try simp -implicitDefEqProofs only [lenMax, push_cast, Nat.reduceEqDiff, Nat.reduceBEq, Nat.reduceBNe, Nat.reduceAdd, Nat.reduceMul, Nat.reduceLT, Nat.reduceLeDiff, Nat.reduceSub, reduceCtorEq, Int.reduceToNat, ↓reduceIte]
  repeat'
    (first
     | (refine uYes ?_; first | exact List.mem_cons_self | (simp only [List.mem_cons, List.not_mem_nil, or_false, true_or, or_true]; done))
     | (refine uNo (by kernel_rfl))
     | (refine flatMk ?_; kernel_rfl)
     | (refine And.intro ?_ ?_)
     | (intro hx)
     | ((first
         | (refine callGF ?_)
         | (refine callQGF ?_)
         | (refine skipG ?_)
         | (refine callS (in_gives _ _ _ _) ?_)
         | (refine callQ (in_gives _ _ _ _) ?_)
         | (refine callG (fun hc => (in_gives _ _ _ _)) ?_)
         | (refine callQG (fun hc => (in_gives _ _ _ _)) ?_)); simp -implicitDefEqProofs only [lenMax, push_cast, Nat.reduceEqDiff, Nat.reduceBEq, Nat.reduceBNe, Nat.reduceAdd, Nat.reduceMul, Nat.reduceLT, Nat.reduceLeDiff, Nat.reduceSub, reduceCtorEq, Int.reduceToNat, ↓reduceIte]))
  all_goals first
    | omega
    | exact ints_c1 _ _ hx
    | exact holds_c1 _ _ hx
    | trace_state
theorem specLegDrop_gives (l : Leg) (n : Int) (h : Hp) : Gives Try.prog 48 [l.d, .int .i64 n] h (if legB l then dropL l n else default).d := by
  cases hb : legB l with
  | false =>
    show Gives _ _ _ _ (Leg.d default)
    refine meets_of [] mixed Try.func48 rfl (by kernel_rfl) (by kernel_rfl) (by rw [Try.ntmps48]; simp only [List.length_cons, List.length_nil]; omega) (fun hf => ?_)
    rw [Try.results48]
    try simp -implicitDefEqProofs only [← legB_spec, hb, push_cast, Nat.reduceEqDiff, Nat.reduceBEq, Nat.reduceBNe, Nat.reduceAdd, Nat.reduceMul, Nat.reduceLT, Nat.reduceLeDiff, Nat.reduceSub, reduceCtorEq, Int.reduceToNat, ↓reduceIte]
    repeat'
      (first
       | (refine uYes ?_; first | exact List.mem_cons_self | (simp only [List.mem_cons, List.not_mem_nil, or_false, true_or, or_true]; done))
       | (refine uNo (by kernel_rfl))
       | (refine flatMk ?_; kernel_rfl)
       | (refine And.intro ?_ ?_)
       | (intro hx)
       | ((first
           | (refine callGF ?_)
           | (refine callQGF ?_)
           | (refine skipG ?_)
           | (refine callS (specLegOk_gives l _) ?_)
           | (refine callQ (specLegOk_gives l _) ?_)
           | (refine callG (fun hc => (specLegOk_gives l _)) ?_)
           | (refine callQG (fun hc => (specLegOk_gives l _)) ?_)); simp -implicitDefEqProofs only [← legB_spec, hb, push_cast, Nat.reduceEqDiff, Nat.reduceBEq, Nat.reduceBNe, Nat.reduceAdd, Nat.reduceMul, Nat.reduceLT, Nat.reduceLeDiff, Nat.reduceSub, reduceCtorEq, Int.reduceToNat, ↓reduceIte]))
    all_goals first
      | rfl
      | trace_state
  | true =>
    show Gives _ _ _ _ (dropL l n).d
    refine meets_of [] mixed Try.func48 rfl (by kernel_rfl) (by kernel_rfl) (by rw [Try.ntmps48]; simp only [List.length_cons, List.length_nil]; omega) (fun hf => ?_)
    rw [Try.results48]
    try simp -implicitDefEqProofs only [← legB_spec, hb, push_cast, Nat.reduceEqDiff, Nat.reduceBEq, Nat.reduceBNe, Nat.reduceAdd, Nat.reduceMul, Nat.reduceLT, Nat.reduceLeDiff, Nat.reduceSub, reduceCtorEq, Int.reduceToNat, ↓reduceIte]
    repeat'
      (first
       | (refine uYes ?_; first | exact List.mem_cons_self | (simp only [List.mem_cons, List.not_mem_nil, or_false, true_or, or_true]; done))
       | (refine uNo (by kernel_rfl))
       | (refine flatMk ?_; kernel_rfl)
       | (refine And.intro ?_ ?_)
       | (intro hx)
       | ((first
           | (refine callGF ?_)
           | (refine callQGF ?_)
           | (refine skipG ?_)
           | (refine callS (specLegOk_gives l _) ?_)
           | (refine callQ (specLegOk_gives l _) ?_)
           | (refine callG (fun hc => (specLegOk_gives l _)) ?_)
           | (refine callQG (fun hc => (specLegOk_gives l _)) ?_)
           | (refine callS (l6Drop_gives l n _) ?_)
           | (refine callQ (l6Drop_gives l n _) ?_)
           | (refine callG (fun hc => (l6Drop_gives l n _)) ?_)
           | (refine callQG (fun hc => (l6Drop_gives l n _)) ?_)
           | (refine callS (l6Copy_gives (dropL l n) _) ?_)
           | (refine callQ (l6Copy_gives (dropL l n) _) ?_)
           | (refine callG (fun hc => (l6Copy_gives (dropL l n) _)) ?_)
           | (refine callQG (fun hc => (l6Copy_gives (dropL l n) _)) ?_)); simp -implicitDefEqProofs only [← legB_spec, hb, push_cast, Nat.reduceEqDiff, Nat.reduceBEq, Nat.reduceBNe, Nat.reduceAdd, Nat.reduceMul, Nat.reduceLT, Nat.reduceLeDiff, Nat.reduceSub, reduceCtorEq, Int.reduceToNat, ↓reduceIte]))
    all_goals first
      | rfl
      | trace_state
theorem specLegKeep_gives (l : Leg) (n : Int) (h : Hp) (hc : legB l = true → thereB l n = true → 0 ≤ (l.holds.getD (placeN l n) default).cls ∧ (l.holds.getD (placeN l n) default).cls < l.sold.length) : Gives Try.prog 45 [l.d, .int .i64 n] h (if legB l then keepL l n else default).d := by
  cases hb : legB l with
  | false =>
    show Gives _ _ _ _ (Leg.d default)
    refine meets_of [] mixed Try.func45 rfl (by kernel_rfl) (by kernel_rfl) (by rw [Try.ntmps45]; simp only [List.length_cons, List.length_nil]; omega) (fun hf => ?_)
    rw [Try.results45]
    try simp -implicitDefEqProofs only [← legB_spec, hb, push_cast, Nat.reduceEqDiff, Nat.reduceBEq, Nat.reduceBNe, Nat.reduceAdd, Nat.reduceMul, Nat.reduceLT, Nat.reduceLeDiff, Nat.reduceSub, reduceCtorEq, Int.reduceToNat, ↓reduceIte]
    repeat'
      (first
       | (refine uYes ?_; first | exact List.mem_cons_self | (simp only [List.mem_cons, List.not_mem_nil, or_false, true_or, or_true]; done))
       | (refine uNo (by kernel_rfl))
       | (refine flatMk ?_; kernel_rfl)
       | (refine And.intro ?_ ?_)
       | (intro hx)
       | ((first
           | (refine callGF ?_)
           | (refine callQGF ?_)
           | (refine skipG ?_)
           | (refine callS (specLegOk_gives l _) ?_)
           | (refine callQ (specLegOk_gives l _) ?_)
           | (refine callG (fun hc => (specLegOk_gives l _)) ?_)
           | (refine callQG (fun hc => (specLegOk_gives l _)) ?_)); simp -implicitDefEqProofs only [← legB_spec, hb, push_cast, Nat.reduceEqDiff, Nat.reduceBEq, Nat.reduceBNe, Nat.reduceAdd, Nat.reduceMul, Nat.reduceLT, Nat.reduceLeDiff, Nat.reduceSub, reduceCtorEq, Int.reduceToNat, ↓reduceIte]))
    all_goals first
      | rfl
      | trace_state
  | true =>
    show Gives _ _ _ _ (keepL l n).d
    refine meets_of [] mixed Try.func45 rfl (by kernel_rfl) (by kernel_rfl) (by rw [Try.ntmps45]; simp only [List.length_cons, List.length_nil]; omega) (fun hf => ?_)
    rw [Try.results45]
    try simp -implicitDefEqProofs only [← legB_spec, hb, push_cast, Nat.reduceEqDiff, Nat.reduceBEq, Nat.reduceBNe, Nat.reduceAdd, Nat.reduceMul, Nat.reduceLT, Nat.reduceLeDiff, Nat.reduceSub, reduceCtorEq, Int.reduceToNat, ↓reduceIte]
    repeat'
      (first
       | (refine uYes ?_; first | exact List.mem_cons_self | (simp only [List.mem_cons, List.not_mem_nil, or_false, true_or, or_true]; done))
       | (refine uNo (by kernel_rfl))
       | (refine flatMk ?_; kernel_rfl)
       | (refine And.intro ?_ ?_)
       | (intro hx)
       | ((first
           | (refine callGF ?_)
           | (refine callQGF ?_)
           | (refine skipG ?_)
           | (refine callS (specLegOk_gives l _) ?_)
           | (refine callQ (specLegOk_gives l _) ?_)
           | (refine callG (fun hc => (specLegOk_gives l _)) ?_)
           | (refine callQG (fun hc => (specLegOk_gives l _)) ?_)
           | (refine callS (l6Keep_gives l n _ (hc hb)) ?_)
           | (refine callQ (l6Keep_gives l n _ (hc hb)) ?_)
           | (refine callG (fun hc => (l6Keep_gives l n _ (hc hb))) ?_)
           | (refine callQG (fun hc => (l6Keep_gives l n _ (hc hb))) ?_)
           | (refine callS (l6Copy_gives (keepL l n) _) ?_)
           | (refine callQ (l6Copy_gives (keepL l n) _) ?_)
           | (refine callG (fun hc => (l6Copy_gives (keepL l n) _)) ?_)
           | (refine callQG (fun hc => (l6Copy_gives (keepL l n) _)) ?_)); simp -implicitDefEqProofs only [← legB_spec, hb, push_cast, Nat.reduceEqDiff, Nat.reduceBEq, Nat.reduceBNe, Nat.reduceAdd, Nat.reduceMul, Nat.reduceLT, Nat.reduceLeDiff, Nat.reduceSub, reduceCtorEq, Int.reduceToNat, ↓reduceIte]))
    all_goals first
      | rfl
      | trace_state
end Go.Proofs.Ytmehbbepppjikaa

namespace Go.Proofs.Ytmehbbepppjikaa
open Go.Av
set_option maxRecDepth 10000
set_option linter.unusedSimpArgs false
set_option linter.unusedVariables false

theorem LegP.rises {l : Leg} (h : LegP l) : ∀ {i j : Nat}, i < j → j < l.holds.length → (l.holds.getD i default).txn < (l.holds.getD j default).txn := by
  intro i j hij
  induction j with
  | zero => omega
  | succ j ih =>
    intro hj
    have := h.rise (j + 1) hj (by omega)
    simp only [Nat.add_sub_cancel] at this
    by_cases e : i = j
    · exact e ▸ this
    · have := ih (by omega) (by omega)
      omega
theorem LegP.there_t {l : Leg} (h : LegP l) {n : Int} (ht : thereB l n = true) : heldIdx l n = placeN l n := by
  have hk := thereB_t ht
  simp only [thereB, Bool.and_eq_true, decide_eq_true_eq] at ht
  refine idxV_at default hk (fun i hi => decide_eq_false ?_) (decide_eq_true ht.2)
  have := h.rises hi hk
  omega
theorem LegP.there_f {l : Leg} (h : LegP l) {n : Int} (ht : thereB l n = false) : heldIdx l n < 0 := by
  have : heldIdx l n = -1 := idxV_none default fun i hi => by
    refine decide_eq_false fun e => ?_
    have hp : placeN l n = i := whileN_at default (by omega) (fun j hj => decide_eq_true (by have := h.rises hj hi; omega)) (fun _ => decide_eq_false (by omega))
    rw [thereB, hp, decide_eq_true hi, decide_eq_true e] at ht
    cases ht
  omega
theorem LegP.cls {l : Leg} (h : LegP l) {k : Nat} (hk : k < l.holds.length) : 0 ≤ (l.holds.getD k default).cls ∧ (l.holds.getD k default).cls < l.sold.length := by
  have hm : l.holds.getD k default ∈ l.holds := by
    rw [List.getD_eq_getElem?_getD, List.getElem?_eq_getElem hk]
    exact List.getElem_mem hk
  have := inB_iff.1 (h.seats _ hm).2.1
  have := h.sold
  omega
def settleL (l : Leg) (n : Int) (keep : Bool) : Leg := if thereB l n then { l with sold := soldV l (placeN l n) keep, holds := l.holds.eraseIdx (placeN l n) } else l
theorem settleL_keep (l : Leg) (n : Int) : settleL l n true = keepL l n := rfl
theorem settleL_drop (l : Leg) (n : Int) : settleL l n false = dropL l n := by
  rw [settleL, dropL]; rfl

theorem legAt7 (h : Hp) (a b c : Ob) (l : Leg) : LegAt (h ++ [a, b, .row (l.limits.map (.int .i64)), .row (l.sold.map (.int .i64)), .row (l.bids.map (.int .i64)), .row (l.holds.flatMap Hold.cs), c]) (h.length + 2) l :=
  ⟨ob_app h _ 2, ob_app h _ 3, ob_app h _ 4, ob_app h _ 5, by simp⟩
theorem settled_bad (l : Leg) (n : Int) (keep : Bool) (h : Hp) (hb : legB l = false) : Gives Try.prog 97 [l.d, .int .i64 n, .bool keep] h (Leg.d default) := by
  refine meets_of [] mixed Try.func97 rfl (by kernel_rfl) (by kernel_rfl) (by rw [Try.ntmps97]; simp only [List.length_cons, List.length_nil]; omega) (fun hf => ?_)
  rw [Try.results97]
  try simp -implicitDefEqProofs only [hb, push_cast, Nat.reduceEqDiff, Nat.reduceBEq, Nat.reduceBNe, Nat.reduceAdd, Nat.reduceMul, Nat.reduceLT, Nat.reduceLeDiff, Nat.reduceSub, reduceCtorEq, Int.reduceToNat, ↓reduceIte]
  repeat'
    (first
     | (refine uYes ?_; first | exact List.mem_cons_self | (simp only [List.mem_cons, List.not_mem_nil, or_false, true_or, or_true]; done))
     | (refine uNo (by kernel_rfl))
     | (refine flatMk ?_; kernel_rfl)
     | (refine And.intro ?_ ?_)
     | (intro hx)
     | ((first
         | (refine callGF ?_)
         | (refine callQGF ?_)
         | (refine skipG ?_)
         | (refine callS (implLegOk_gives l _) ?_)
         | (refine callQ (implLegOk_gives l _) ?_)
         | (refine callG (fun hc => (implLegOk_gives l _)) ?_)
         | (refine callQG (fun hc => (implLegOk_gives l _)) ?_)); simp -implicitDefEqProofs only [hb, push_cast, Nat.reduceEqDiff, Nat.reduceBEq, Nat.reduceBNe, Nat.reduceAdd, Nat.reduceMul, Nat.reduceLT, Nat.reduceLeDiff, Nat.reduceSub, reduceCtorEq, Int.reduceToNat, ↓reduceIte]))
  all_goals first
    | rfl
    | trace_state
theorem settled_none (l : Leg) (n : Int) (keep : Bool) (h : Hp) (hb : legB l = true) (ht : thereB l n = false) :
    Meets Try.prog 97 [l.d, .int .i64 n, .bool keep] h fun d' h' => d' = l.dv h.length ∧ h' = h ++ l.rows := by
  have hp := legP_of hb
  refine Meets.compact (hb := h) (junk := [.row l.cs, .row (l.dvc (h.length + 2))]) (rows1 := l.rows) rfl (old_ob h) (l.dv_ren (Nat.le_refl _)) rfl (l.rows_ren _ _) ?_
  refine meets_of [] mixed Try.func97 rfl (by kernel_rfl) (by kernel_rfl) (by rw [Try.ntmps97]; simp only [List.length_cons, List.length_nil]; omega) (fun hf => ?_)
  rw [Try.results97]
  clear hf
  try simp -implicitDefEqProofs only [hb, Leg.dv, Leg.dvc, Leg.rows, push_cast, Nat.reduceEqDiff, Nat.reduceBEq, Nat.reduceBNe, Nat.reduceAdd, Nat.reduceMul, Nat.reduceLT, Nat.reduceLeDiff, Nat.reduceSub, reduceCtorEq, Int.reduceToNat, ↓reduceIte]
  repeat'
    (first
     | (refine uYes ?_; first | exact List.mem_cons_self | (simp only [List.mem_cons, List.not_mem_nil, or_false, true_or, or_true]; done))
     | (refine uNo (by kernel_rfl))
     | (refine flatMk ?_; kernel_rfl)
     | (refine And.intro ?_ ?_)
     | (intro hx)
     | ((first
         | (refine callGF ?_)
         | (refine callQGF ?_)
         | (refine skipG ?_)
         | (refine callS (implLegOk_gives l _) ?_)
         | (refine callQ (implLegOk_gives l _) ?_)
         | (refine callG (fun hc => (implLegOk_gives l _)) ?_)
         | (refine callQG (fun hc => (implLegOk_gives l _)) ?_)
         | (refine callM (copyOfR l _) ?_)
         | (refine callS (dropR_none l _ (h.length + 2) n keep _ (ob_app h _ 6) (by simp) (legAt7 _ _ _ _ _) (hp.there_f ht)) ?_)
         | (refine callQ (dropR_none l _ (h.length + 2) n keep _ (ob_app h _ 6) (by simp) (legAt7 _ _ _ _ _) (hp.there_f ht)) ?_)
         | (refine callG (fun hc => (dropR_none l _ (h.length + 2) n keep _ (ob_app h _ 6) (by simp) (legAt7 _ _ _ _ _) (hp.there_f ht))) ?_)
         | (refine callQG (fun hc => (dropR_none l _ (h.length + 2) n keep _ (ob_app h _ 6) (by simp) (legAt7 _ _ _ _ _) (hp.there_f ht))) ?_)); simp -implicitDefEqProofs only [hb, Leg.dv, Leg.dvc, Leg.rows, push_cast, Nat.reduceEqDiff, Nat.reduceBEq, Nat.reduceBNe, Nat.reduceAdd, Nat.reduceMul, Nat.reduceLT, Nat.reduceLeDiff, Nat.reduceSub, reduceCtorEq, Int.reduceToNat, ↓reduceIte]))
  all_goals first
    | omega
    | rfl
    | exact ints_cl _ _ _ hx
    | exact holds_cl _ _ _ hx
    | trace_state
theorem dropR7 (l : Leg) (k : Nat) (n : Int) (keep : Bool) (h : Hp) (a b : Ob) (hn : heldIdx l n = k) (hk : k < l.holds.length) (hc : 0 ≤ (l.holds.getD k default).cls ∧ (l.holds.getD k default).cls < l.sold.length) (hh : l.holds.length ≤ 1073741824) :
    Meets Try.prog 128 [.ptr (h.length + 6) 0, .int .i64 n, .bool keep] (h ++ [a, b, .row (l.limits.map (.int .i64)), .row (l.sold.map (.int .i64)), .row (l.bids.map (.int .i64)), .row (l.holds.flatMap Hold.cs), .row (l.dvc (h.length + 2))]) fun d' h' => d' = .tup [] ∧
      h' = h ++ [a, b, .row (l.limits.map (.int .i64)), .row ((soldV l k keep).map (.int .i64)), .row (l.bids.map (.int .i64)), .row ((l.holds.eraseIdx k).flatMap Hold.cs ++ [.int .i64 0, .int .i64 0, .int .i64 0]), .row (splice (l.dvc (h.length + 2)) 9 [.vec (h.length + 8) true 3 0 (l.holds.length - 1) (l.holds.length - 1)]),
        .row (l.holds.getD k default).cs, .row ((l.holds.eraseIdx k).flatMap Hold.cs)] := by
  have := dropR_some l (h.length + 6) (h.length + 2) k n keep _ (ob_app h _ 6) (by simp) (legAt7 h a b (.row (l.dvc (h.length + 2))) l) (.inr (by omega)) hn hk hc hh
  have e : ∀ x y z : Ob, ∀ ls : Hp, ∀ w : List Ob, ((((if keep then (h ++ ls).set (h.length + 2 + 1) x else h ++ ls).set (h.length + 2 + 3) y).set (h.length + 6) z) ++ w) = h ++ (((if keep then ls.set 3 x else ls).set 5 y).set 6 z ++ w) := fun x y z ls w => by
    rw [show h.length + 2 + 1 = h.length + 3 from rfl, show h.length + 2 + 3 = h.length + 5 from rfl]
    cases keep <;> simp only [Bool.false_eq_true, if_false, if_true, set_app, List.append_assoc]
  rw [e, List.length_append] at this
  have e2 : ∀ a b c d e f g y z : Ob, ((((if keep then [a, b, c, d, e, f, g].set 3 (.row ((soldV l k keep).map (.int .i64))) else [a, b, c, .row (l.sold.map (.int .i64)), e, f, g]).set 5 y).set 6 z)) = [a, b, c, .row ((soldV l k keep).map (.int .i64)), e, y, z] := fun a b c d e f g y z => by
    cases keep <;> rfl
  rw [e2 a b _ (.row (l.sold.map (.int .i64)))] at this
  exact this
/-- a leg's cells with its slices in four given rows -/
def Leg.at4 (l : Leg) (a b c d k : Nat) : List D := [.str l.name, .str l.src, .str l.dst, .int .i64 l.dep, .int .i64 l.arr, .int .i64 l.cap, .vec a false 1 0 l.limits.length l.limits.length, .vec b false 1 0 l.sold.length l.sold.length, .vec c false 1 0 l.bids.length l.bids.length, .vec d true 3 0 k k]
theorem Leg.at4_ren (l : Leg) {n j a b c d a' b' c' d' k : Nat} (ha : ∀ ag sz len cp, Ren n j (.vec a' ag sz 0 len cp) (.vec a ag sz 0 len cp)) (hb : ∀ ag sz len cp, Ren n j (.vec b' ag sz 0 len cp) (.vec b ag sz 0 len cp)) (hc : ∀ ag sz len cp, Ren n j (.vec c' ag sz 0 len cp) (.vec c ag sz 0 len cp)) (hd : ∀ ag sz len cp, Ren n j (.vec d' ag sz 0 len cp) (.vec d ag sz 0 len cp)) :
    ∀ i (h1 : i < (l.at4 a' b' c' d' k).length) (h2 : i < (l.at4 a b c d k).length), Ren n j ((l.at4 a' b' c' d' k)[i]) ((l.at4 a b c d k)[i]) := by
  intro i h1 h2
  match i, h2 with
  | 0, _ => exact .str _
  | 1, _ => exact .str _
  | 2, _ => exact .str _
  | 3, _ => exact .int _ _
  | 4, _ => exact .int _ _
  | 5, _ => exact .int _ _
  | 6, _ => exact ha _ _ _ _
  | 7, _ => exact hb _ _ _ _
  | 8, _ => exact hc _ _ _ _
  | 9, _ => exact hd _ _ _ _
theorem holds_ren' (xs : List Hold) (n k : Nat) (a b c : Int) : RenOb n k (.row (xs.flatMap Hold.cs ++ [.int .i64 a, .int .i64 b, .int .i64 c])) (.row (xs.flatMap Hold.cs ++ [.int .i64 a, .int .i64 b, .int .i64 c])) := .row _ _ rfl (fun j h1 h2 => by
  have hm := List.getElem_mem h1
  rcases List.mem_append.1 hm with hm | hm
  · obtain ⟨x, _, hd⟩ := List.mem_flatMap.1 hm
    simp only [Hold.cs, List.mem_cons, List.not_mem_nil, or_false] at hd
    rcases hd with e | e | e <;> rw [e] <;> exact .int _ _
  · simp only [List.mem_cons, List.not_mem_nil, or_false] at hm
    rcases hm with e | e | e <;> rw [e] <;> exact .int _ _)
theorem hold_ren (x : Hold) (n k : Nat) : RenOb n k (.row x.cs) (.row x.cs) := .row _ _ rfl (fun j h1 h2 => by
  match j, h2 with
  | 0, _ => exact .int _ _
  | 1, _ => exact .int _ _
  | 2, _ => exact .int _ _)
theorem settled_some (l : Leg) (n : Int) (keep : Bool) (h : Hp) (hb : legB l = true) (ht : thereB l n = true) :
    Meets Try.prog 97 [l.d, .int .i64 n, .bool keep] h fun d' h' => d' = (settleL l n keep).dv h.length ∧ h' = h ++ (settleL l n keep).rows := by
  have hp := legP_of hb
  have hk := thereB_t ht
  have hho := hp.holds
  have hel : (l.holds.eraseIdx (placeN l n)).length = l.holds.length - 1 := by rw [List.length_eraseIdx, if_pos hk]
  have hsl : (soldV l (placeN l n) keep).length = l.sold.length := by
    rw [soldV]; split <;> simp
  have e : settleL l n keep = { l with sold := soldV l (placeN l n) keep, holds := l.holds.eraseIdx (placeN l n) } := by rw [settleL, ht]; rfl
  have er : (settleL l n keep).rows = [.row (l.limits.map (.int .i64)), .row ((soldV l (placeN l n) keep).map (.int .i64)), .row (l.bids.map (.int .i64)), .row ((l.holds.eraseIdx (placeN l n)).flatMap Hold.cs)] := by rw [e]; rfl
  have ed : ∀ r, (settleL l n keep).dv r = .agg (l.at4 r (r + 1) (r + 2) (r + 3) (l.holds.length - 1)) := fun r => by rw [e]; simp only [Leg.dv, Leg.dvc, Leg.at4, hsl, hel]
  rw [er, ed, show h ++ [.row (l.limits.map (.int .i64)), .row ((soldV l (placeN l n) keep).map (.int .i64)), .row (l.bids.map (.int .i64)), .row ((l.holds.eraseIdx (placeN l n)).flatMap Hold.cs)] = (h ++ [.row (l.limits.map (.int .i64)), .row ((soldV l (placeN l n) keep).map (.int .i64)), .row (l.bids.map (.int .i64))]) ++ [.row ((l.holds.eraseIdx (placeN l n)).flatMap Hold.cs)] by simp]
  refine Meets.compactAt (h := h) (hb := h ++ [.row (l.limits.map (.int .i64)), .row ((soldV l (placeN l n) keep).map (.int .i64)), .row (l.bids.map (.int .i64))])
    (junk := [.row ((l.holds.eraseIdx (placeN l n)).flatMap Hold.cs ++ [.int .i64 0, .int .i64 0, .int .i64 0]), .row (l.at4 h.length (h.length + 1) (h.length + 2) (h.length + 6) (l.holds.length - 1)), .row (l.holds.getD (placeN l n) default).cs])
    (rows1 := [.row ((l.holds.eraseIdx (placeN l n)).flatMap Hold.cs)]) (d1 := .agg (l.at4 h.length (h.length + 1) (h.length + 2) (h.length + 6) (l.holds.length - 1))) ?_ ?_ ?_ rfl ?_ ?_
  · simp
  · intro r x hx
    by_cases hr : r < h.length
    · rw [List.getElem?_append_left hr] at hx
      exact .inl hx
    · rw [List.getElem?_append_right (by omega)] at hx
      have := List.mem_of_getElem? hx
      simp only [List.mem_cons, List.not_mem_nil, or_false] at this
      rcases this with e | e | e <;> rw [e] <;> exact .inr (ints_cl _ _)
  · refine .agg _ _ rfl (l.at4_ren (fun _ _ _ _ => .old _ _ _ _ _ _ (by simp)) (fun _ _ _ _ => .old _ _ _ _ _ _ (by simp)) (fun _ _ _ _ => .old _ _ _ _ _ _ (by simp)) (fun _ _ _ _ => ?_))
    exact .vec (h.length + 3) _ _ _ _ _ (by simp)
  · intro j h1 h2
    match j, h2 with
    | 0, _ => exact holds_ren _ _ _
  rw [show (h ++ [.row (l.limits.map (.int .i64)), .row ((soldV l (placeN l n) keep).map (.int .i64)), .row (l.bids.map (.int .i64))]) ++ ([.row ((l.holds.eraseIdx (placeN l n)).flatMap Hold.cs ++ [.int .i64 0, .int .i64 0, .int .i64 0]), .row (l.at4 h.length (h.length + 1) (h.length + 2) (h.length + 6) (l.holds.length - 1)), .row (l.holds.getD (placeN l n) default).cs] ++ [.row ((l.holds.eraseIdx (placeN l n)).flatMap Hold.cs)]) =
    h ++ [.row (l.limits.map (.int .i64)), .row ((soldV l (placeN l n) keep).map (.int .i64)), .row (l.bids.map (.int .i64)), .row ((l.holds.eraseIdx (placeN l n)).flatMap Hold.cs ++ [.int .i64 0, .int .i64 0, .int .i64 0]), .row (l.at4 h.length (h.length + 1) (h.length + 2) (h.length + 6) (l.holds.length - 1)), .row (l.holds.getD (placeN l n) default).cs, .row ((l.holds.eraseIdx (placeN l n)).flatMap Hold.cs)] by simp]
  have hre : ∀ i (h1 : i < (l.at4 (h.length + 2) (h.length + 2 + 1) (h.length + 2 + 2) (h.length + 8) (l.holds.length - 1)).length) (h2 : i < (l.at4 h.length (h.length + 1) (h.length + 2) (h.length + 6) (l.holds.length - 1)).length), Ren h.length 2 ((l.at4 (h.length + 2) (h.length + 2 + 1) (h.length + 2 + 2) (h.length + 8) (l.holds.length - 1))[i]) ((l.at4 h.length (h.length + 1) (h.length + 2) (h.length + 6) (l.holds.length - 1))[i]) :=
    l.at4_ren (fun _ _ _ _ => .vec h.length _ _ _ _ _ (by omega)) (fun _ _ _ _ => .vec (h.length + 1) _ _ _ _ _ (by omega)) (fun _ _ _ _ => .vec (h.length + 2) _ _ _ _ _ (by omega)) (fun _ _ _ _ => .vec (h.length + 6) _ _ _ _ _ (by omega))
  refine Meets.compact (hb := h) (junk := [.row l.cs, .row (l.at4 (h.length + 2) (h.length + 2 + 1) (h.length + 2 + 2) (h.length + 8) (l.holds.length - 1))])
    (rows1 := [.row (l.limits.map (.int .i64)), .row ((soldV l (placeN l n) keep).map (.int .i64)), .row (l.bids.map (.int .i64)), .row ((l.holds.eraseIdx (placeN l n)).flatMap Hold.cs ++ [.int .i64 0, .int .i64 0, .int .i64 0]), .row (l.at4 (h.length + 2) (h.length + 2 + 1) (h.length + 2 + 2) (h.length + 8) (l.holds.length - 1)), .row (l.holds.getD (placeN l n) default).cs, .row ((l.holds.eraseIdx (placeN l n)).flatMap Hold.cs)])
    (d1 := .agg (l.at4 (h.length + 2) (h.length + 2 + 1) (h.length + 2 + 2) (h.length + 8) (l.holds.length - 1))) rfl (old_ob h) (.agg _ _ rfl hre) rfl ?_ ?_
  · intro j h1 h2
    match j, h2 with
    | 0, _ => exact ints_ren _ _ _
    | 1, _ => exact ints_ren _ _ _
    | 2, _ => exact ints_ren _ _ _
    | 3, _ => exact holds_ren' _ _ _ _ _ _
    | 4, _ => exact .row _ _ rfl hre
    | 5, _ => exact hold_ren _ _ _
    | 6, _ => exact holds_ren _ _ _
  refine meets_of [] mixed Try.func97 rfl (by kernel_rfl) (by kernel_rfl) (by rw [Try.ntmps97]; simp only [List.length_cons, List.length_nil]; omega) (fun hf => ?_)
  rw [Try.results97]
  clear hf
  try simp -implicitDefEqProofs only [hb, Leg.dv, Leg.dvc, Leg.rows, Leg.at4, push_cast, Nat.reduceEqDiff, Nat.reduceBEq, Nat.reduceBNe, Nat.reduceAdd, Nat.reduceMul, Nat.reduceLT, Nat.reduceLeDiff, Nat.reduceSub, reduceCtorEq, Int.reduceToNat, ↓reduceIte]
  repeat'
    (first
     | (refine uYes ?_; first | exact List.mem_cons_self | (simp only [List.mem_cons, List.not_mem_nil, or_false, true_or, or_true]; done))
     | (refine uNo (by kernel_rfl))
     | (refine flatMk ?_; kernel_rfl)
     | (refine And.intro ?_ ?_)
     | (intro hx)
     | ((first
         | (refine callGF ?_)
         | (refine callQGF ?_)
         | (refine skipG ?_)
         | (refine callS (implLegOk_gives l _) ?_)
         | (refine callQ (implLegOk_gives l _) ?_)
         | (refine callG (fun hc => (implLegOk_gives l _)) ?_)
         | (refine callQG (fun hc => (implLegOk_gives l _)) ?_)
         | (refine callM (copyOfR l _) ?_)
         | (refine callM (dropR7 l (placeN l n) n keep h _ _ (hp.there_t ht) hk (hp.cls hk) (by omega)) ?_)); simp -implicitDefEqProofs only [hb, Leg.dv, Leg.dvc, Leg.rows, Leg.at4, push_cast, Nat.reduceEqDiff, Nat.reduceBEq, Nat.reduceBNe, Nat.reduceAdd, Nat.reduceMul, Nat.reduceLT, Nat.reduceLeDiff, Nat.reduceSub, reduceCtorEq, Int.reduceToNat, ↓reduceIte]))
  all_goals first
    | omega
    | rfl
    | exact ints_cl _ _ _ hx
    | exact holds_cl _ _ _ hx
    | exact cl_holds' _ _ _ _ _ _ hx
    | trace_state
end Go.Proofs.Ytmehbbepppjikaa
