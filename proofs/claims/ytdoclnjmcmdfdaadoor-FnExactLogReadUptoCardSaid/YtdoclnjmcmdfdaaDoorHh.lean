/- The laws FnExactLogOk, FnExactLogAdd, FnExactLogRead. -/
import Derived.Test.YtdoclnjmcmdfdaaDoorHg
import Derived.Test.YtdoclnjmcmdfdaaDoorGq

namespace Go.Proofs.YtdoclnjmcmdfdaaDoor
set_option linter.unusedSectionVars false
open Go.Av
variable [Av.Start] [TabSha] [TabBits] [TabPow] [TabErr] [TabMax]
set_option maxRecDepth 10000
set_option maxHeartbeats 2000000
set_option linter.unusedSimpArgs false
set_option linter.unusedVariables false

theorem fnExactLogOk_gives (s : List UInt8) (h : Hp) : Gives Tryd.prog 3 [.str s] h (.bool true) := by
  obtain ⟨recs, H⟩ := logIs_ex s
  rcases Nat.lt_or_ge 1048576 s.length with hl | hl
  · refine meets_of [] mixed Tryd.func3 rfl (by kernel_rfl) (by kernel_rfl) (by rw [Tryd.ntmps3]; simp only [List.length_cons, List.length_nil]; omega) (fun hf => ?_)
    rw [Tryd.results3]
    clear hf
    try simp -implicitDefEqProofs only [push_cast, Nat.reduceEqDiff, Nat.reduceBEq, Nat.reduceBNe, Nat.reduceAdd, Nat.reduceMul, Nat.reduceLT, Nat.reduceLeDiff, Nat.reduceSub, reduceCtorEq, Int.reduceToNat, ↓reduceIte]
    repeat'
      (first
       | (refine uYes ?_; first | exact List.mem_cons_self | (simp only [List.mem_cons, List.not_mem_nil, or_false, true_or, or_true]; done))
       | (refine uNo (by kernel_rfl))
       | (refine flatMk ?_; kernel_rfl)
       | (refine And.intro ?_ ?_)
       | (intro hx)
       | ((first
           | (refine callGF ?_)
           | (refine callQGF ?_)
           | (refine skipG ?_)
           | (refine callS (in_gives _ _ _ _) ?_)
           | (refine callQ (in_gives _ _ _ _) ?_)
           | (refine callG (fun hc => (in_gives _ _ _ _)) ?_)
           | (refine callQG (fun hc => (in_gives _ _ _ _)) ?_)); simp -implicitDefEqProofs only [push_cast, Nat.reduceEqDiff, Nat.reduceBEq, Nat.reduceBNe, Nat.reduceAdd, Nat.reduceMul, Nat.reduceLT, Nat.reduceLeDiff, Nat.reduceSub, reduceCtorEq, Int.reduceToNat, ↓reduceIte]))
    all_goals first
      | omega
      | (exfalso; omega)
      | trace_state
  · have h1 := fun g => specLogOk_gives s recs g (by omega) H
    have h2 := fun g => implLogOk_gives s recs g (by omega) H
    generalize logOkB s recs = b at h1 h2
    refine meets_of [] mixed Tryd.func3 rfl (by kernel_rfl) (by kernel_rfl) (by rw [Tryd.ntmps3]; simp only [List.length_cons, List.length_nil]; omega) (fun hf => ?_)
    rw [Tryd.results3]
    clear hf
    try simp -implicitDefEqProofs only [push_cast, Nat.reduceEqDiff, Nat.reduceBEq, Nat.reduceBNe, Nat.reduceAdd, Nat.reduceMul, Nat.reduceLT, Nat.reduceLeDiff, Nat.reduceSub, reduceCtorEq, Int.reduceToNat, ↓reduceIte]
    repeat'
      (first
       | (refine uYes ?_; first | exact List.mem_cons_self | (simp only [List.mem_cons, List.not_mem_nil, or_false, true_or, or_true]; done))
       | (refine uNo (by kernel_rfl))
       | (refine flatMk ?_; kernel_rfl)
       | (refine And.intro ?_ ?_)
       | (intro hx)
       | ((first
           | (refine callGF ?_)
           | (refine callQGF ?_)
           | (refine skipG ?_)
           | (refine callS (h1 _) ?_)
           | (refine callQ (h1 _) ?_)
           | (refine callG (fun hc => (h1 _)) ?_)
           | (refine callQG (fun hc => (h1 _)) ?_)
           | (refine callS (h2 _) ?_)
           | (refine callQ (h2 _) ?_)
           | (refine callG (fun hc => (h2 _)) ?_)
           | (refine callQG (fun hc => (h2 _)) ?_)); simp -implicitDefEqProofs only [push_cast, Nat.reduceEqDiff, Nat.reduceBEq, Nat.reduceBNe, Nat.reduceAdd, Nat.reduceMul, Nat.reduceLT, Nat.reduceLeDiff, Nat.reduceSub, reduceCtorEq, Int.reduceToNat, ↓reduceIte]))
    all_goals first
      | omega
      | (exfalso; omega)
      | (cases b <;> simp; done)
      | (cases b <;> simp at hx; done)
      | trace_state
theorem fnExactLogAdd_gives (s r : List UInt8) (h : Hp) : Gives Tryd.prog 4 [.str s, .str r] h (.bool true) := by
  obtain ⟨recs, H⟩ := logIs_ex s
  rcases Nat.lt_or_ge 1048576 s.length with hl | hl
  · refine meets_of [] mixed Tryd.func4 rfl (by kernel_rfl) (by kernel_rfl) (by rw [Tryd.ntmps4]; simp only [List.length_cons, List.length_nil]; omega) (fun hf => ?_)
    rw [Tryd.results4]
    clear hf
    try simp -implicitDefEqProofs only [push_cast, Nat.reduceEqDiff, Nat.reduceBEq, Nat.reduceBNe, Nat.reduceAdd, Nat.reduceMul, Nat.reduceLT, Nat.reduceLeDiff, Nat.reduceSub, reduceCtorEq, Int.reduceToNat, ↓reduceIte]
    repeat'
      (first
       | (refine uYes ?_; first | exact List.mem_cons_self | (simp only [List.mem_cons, List.not_mem_nil, or_false, true_or, or_true]; done))
       | (refine uNo (by kernel_rfl))
       | (refine flatMk ?_; kernel_rfl)
       | (refine And.intro ?_ ?_)
       | (intro hx)
       | ((first
           | (refine callGF ?_)
           | (refine callQGF ?_)
           | (refine skipG ?_)
           | (refine callS (in_gives _ _ _ _) ?_)
           | (refine callQ (in_gives _ _ _ _) ?_)
           | (refine callG (fun hc => (in_gives _ _ _ _)) ?_)
           | (refine callQG (fun hc => (in_gives _ _ _ _)) ?_)); simp -implicitDefEqProofs only [push_cast, Nat.reduceEqDiff, Nat.reduceBEq, Nat.reduceBNe, Nat.reduceAdd, Nat.reduceMul, Nat.reduceLT, Nat.reduceLeDiff, Nat.reduceSub, reduceCtorEq, Int.reduceToNat, ↓reduceIte]))
    all_goals first
      | omega
      | (exfalso; omega)
      | trace_state
  rcases Nat.lt_or_ge 1048576 r.length with hr | hr
  · refine meets_of [] mixed Tryd.func4 rfl (by kernel_rfl) (by kernel_rfl) (by rw [Tryd.ntmps4]; simp only [List.length_cons, List.length_nil]; omega) (fun hf => ?_)
    rw [Tryd.results4]
    clear hf
    try simp -implicitDefEqProofs only [push_cast, Nat.reduceEqDiff, Nat.reduceBEq, Nat.reduceBNe, Nat.reduceAdd, Nat.reduceMul, Nat.reduceLT, Nat.reduceLeDiff, Nat.reduceSub, reduceCtorEq, Int.reduceToNat, ↓reduceIte]
    repeat'
      (first
       | (refine uYes ?_; first | exact List.mem_cons_self | (simp only [List.mem_cons, List.not_mem_nil, or_false, true_or, or_true]; done))
       | (refine uNo (by kernel_rfl))
       | (refine flatMk ?_; kernel_rfl)
       | (refine And.intro ?_ ?_)
       | (intro hx)
       | ((first
           | (refine callGF ?_)
           | (refine callQGF ?_)
           | (refine skipG ?_)
           | (refine callS (in_gives _ _ _ _) ?_)
           | (refine callQ (in_gives _ _ _ _) ?_)
           | (refine callG (fun hc => (in_gives _ _ _ _)) ?_)
           | (refine callQG (fun hc => (in_gives _ _ _ _)) ?_)); simp -implicitDefEqProofs only [push_cast, Nat.reduceEqDiff, Nat.reduceBEq, Nat.reduceBNe, Nat.reduceAdd, Nat.reduceMul, Nat.reduceLT, Nat.reduceLeDiff, Nat.reduceSub, reduceCtorEq, Int.reduceToNat, ↓reduceIte]))
    all_goals first
      | omega
      | (exfalso; omega)
      | trace_state
  · have h1 := fun g => specLogAdd_gives s r recs g (by omega) (by omega) H
    have h2 := fun g => implLogAdd_gives s r recs g (by omega) (by omega) H
    generalize (addV s recs r).1 = x at h1 h2
    generalize (addV s recs r).2 = b at h1 h2
    refine meets_of [] mixed Tryd.func4 rfl (by kernel_rfl) (by kernel_rfl) (by rw [Tryd.ntmps4]; simp only [List.length_cons, List.length_nil]; omega) (fun hf => ?_)
    rw [Tryd.results4]
    clear hf
    try simp -implicitDefEqProofs only [push_cast, Nat.reduceEqDiff, Nat.reduceBEq, Nat.reduceBNe, Nat.reduceAdd, Nat.reduceMul, Nat.reduceLT, Nat.reduceLeDiff, Nat.reduceSub, reduceCtorEq, Int.reduceToNat, ↓reduceIte]
    repeat'
      (first
       | (refine uYes ?_; first | exact List.mem_cons_self | (simp only [List.mem_cons, List.not_mem_nil, or_false, true_or, or_true]; done))
       | (refine uNo (by kernel_rfl))
       | (refine flatMk ?_; kernel_rfl)
       | (refine And.intro ?_ ?_)
       | (intro hx)
       | ((first
           | (refine callGF ?_)
           | (refine callQGF ?_)
           | (refine skipG ?_)
           | (refine callS (h1 _) ?_)
           | (refine callQ (h1 _) ?_)
           | (refine callG (fun hc => (h1 _)) ?_)
           | (refine callQG (fun hc => (h1 _)) ?_)
           | (refine callS (h2 _) ?_)
           | (refine callQ (h2 _) ?_)
           | (refine callG (fun hc => (h2 _)) ?_)
           | (refine callQG (fun hc => (h2 _)) ?_)); simp -implicitDefEqProofs only [push_cast, Nat.reduceEqDiff, Nat.reduceBEq, Nat.reduceBNe, Nat.reduceAdd, Nat.reduceMul, Nat.reduceLT, Nat.reduceLeDiff, Nat.reduceSub, reduceCtorEq, Int.reduceToNat, ↓reduceIte]))
    all_goals first
      | omega
      | (exfalso; omega)
      | (cases b <;> simp; done)
      | (cases b <;> simp at hx; done)
      | (simp at *; done)
      | trace_state
theorem fnExactLogRead_gives (s : List UInt8) (h : Hp) : Gives Tryd.prog 6 [.str s] h (.bool true) := by
  obtain ⟨recs, H⟩ := logIs_ex s
  rcases Nat.lt_or_ge 1048576 s.length with hl | hl
  · refine meets_of [] mixed Tryd.func6 rfl (by kernel_rfl) (by kernel_rfl) (by rw [Tryd.ntmps6]; simp only [List.length_cons, List.length_nil]; omega) (fun hf => ?_)
    rw [Tryd.results6]
    clear hf
    try simp -implicitDefEqProofs only [push_cast, Nat.reduceEqDiff, Nat.reduceBEq, Nat.reduceBNe, Nat.reduceAdd, Nat.reduceMul, Nat.reduceLT, Nat.reduceLeDiff, Nat.reduceSub, reduceCtorEq, Int.reduceToNat, ↓reduceIte]
    repeat'
      (first
       | (refine uYes ?_; first | exact List.mem_cons_self | (simp only [List.mem_cons, List.not_mem_nil, or_false, true_or, or_true]; done))
       | (refine uNo (by kernel_rfl))
       | (refine flatMk ?_; kernel_rfl)
       | (refine And.intro ?_ ?_)
       | (intro hx)
       | ((first
           | (refine callGF ?_)
           | (refine callQGF ?_)
           | (refine skipG ?_)
           | (refine callS (in_gives _ _ _ _) ?_)
           | (refine callQ (in_gives _ _ _ _) ?_)
           | (refine callG (fun hc => (in_gives _ _ _ _)) ?_)
           | (refine callQG (fun hc => (in_gives _ _ _ _)) ?_)); simp -implicitDefEqProofs only [push_cast, Nat.reduceEqDiff, Nat.reduceBEq, Nat.reduceBNe, Nat.reduceAdd, Nat.reduceMul, Nat.reduceLT, Nat.reduceLeDiff, Nat.reduceSub, reduceCtorEq, Int.reduceToNat, ↓reduceIte]))
    all_goals first
      | omega
      | (exfalso; omega)
      | trace_state
  · have hS := fun g => specLogRead_gives s recs g (by omega) H
    have hI := fun g => implLogReadR s recs g (by omega) H
    have hI2 := fun g => implLogRead_gives s recs g (by omega) H
    have hrl := H.len
    generalize (joinE 0 recs).length = n at hS hI hI2
    refine meets_of [] mixed Tryd.func6 rfl (by kernel_rfl) (by kernel_rfl) (by rw [Tryd.ntmps6]; simp only [List.length_cons, List.length_nil]; omega) (fun hf => ?_)
    rw [Tryd.results6]
    clear hf
    have ho : ob (h ++ [.row (recs.map D.str)]) h.length = .row (recs.map D.str) := ob_app0 _ _
    have hgs : ob (h ++ [Ob.row ((seqT 1 recs.length).map D.str)]) h.length = .row ((seqT 1 recs.length).map D.str) := ob_app0 _ _
    have hm : decide (1 + (recs.length : Int) < 0) = false := decide_eq_false (by omega)
    try simp -implicitDefEqProofs only [hm, push_cast, Nat.reduceEqDiff, Nat.reduceBEq, Nat.reduceBNe, Nat.reduceAdd, Nat.reduceMul, Nat.reduceLT, Nat.reduceLeDiff, Nat.reduceSub, reduceCtorEq, Int.reduceToNat, ↓reduceIte]
    repeat'
      (first
       | (refine uYes ?_; first | exact List.mem_cons_self | (simp only [List.mem_cons, List.not_mem_nil, or_false, true_or, or_true]; done))
       | (refine uNo (by kernel_rfl))
       | (refine flatMk ?_; kernel_rfl)
       | (refine And.intro ?_ ?_)
       | (intro hx)
       | ((first
           | (refine callGF ?_)
           | (refine callQGF ?_)
           | (refine skipG ?_)
           | (refine callS (hS _) ?_)
           | (refine callQ (hS _) ?_)
           | (refine callG (fun hc => (hS _)) ?_)
           | (refine callQG (fun hc => (hS _)) ?_)
           | (refine callM (dst := some 21) (hI _) ?_)
           | (refine fzS (eqStringS_gives recs recs _) ⟨fw_strs (Nat.zero_le _) ho rfl, strs_cln _ _, fw_refl _ _ _, strs_cln _ _, trivial⟩ (.bool _) ?_)
           | (refine callM (markStringSR 1 _ h.length _ _ _ ho (by simp) (by simp) (strs_cl _ _) (by omega) (by omega)) ?_)
           | (refine fzS (heldStringS_gives 1 recs.length _ (by omega) (by omega)) ⟨fw_strs (Nat.zero_le _) hgs (seqT_len _ _).symm, strs_cln _ _, fw_refl _ _ _, .int _ _, trivial⟩ (.int _ _) ?_)
           | (refine callS (hI2 _) ?_)
           | (refine callQ (hI2 _) ?_)
           | (refine callG (fun hc => (hI2 _)) ?_)
           | (refine callQG (fun hc => (hI2 _)) ?_)); simp -implicitDefEqProofs only [hm, push_cast, Nat.reduceEqDiff, Nat.reduceBEq, Nat.reduceBNe, Nat.reduceAdd, Nat.reduceMul, Nat.reduceLT, Nat.reduceLeDiff, Nat.reduceSub, reduceCtorEq, Int.reduceToNat, ↓reduceIte]))
    all_goals try omega
    try simp -implicitDefEqProofs only [hm, push_cast, Nat.reduceEqDiff, Nat.reduceBEq, Nat.reduceBNe, Nat.reduceAdd, Nat.reduceMul, Nat.reduceLT, Nat.reduceLeDiff, Nat.reduceSub, reduceCtorEq, Int.reduceToNat, ↓reduceIte]
    repeat'
      (first
       | (refine uYes ?_; first | exact List.mem_cons_self | (simp only [List.mem_cons, List.not_mem_nil, or_false, true_or, or_true]; done))
       | (refine uNo (by kernel_rfl))
       | (refine flatMk ?_; kernel_rfl)
       | (refine And.intro ?_ ?_)
       | (intro hx)
       | ((first
           | (refine callGF ?_)
           | (refine callQGF ?_)
           | (refine skipG ?_)
           | (refine callS (eqStringS_gives recs recs _) ?_)
           | (refine callQ (eqStringS_gives recs recs _) ?_)
           | (refine callG (fun hc => (eqStringS_gives recs recs _)) ?_)
           | (refine callQG (fun hc => (eqStringS_gives recs recs _)) ?_)
           | (refine fzS (heldStringS_gives 1 recs.length _ (by omega) (by omega)) ⟨fw_strs (Nat.zero_le _) hgs (seqT_len _ _).symm, strs_cln _ _, fw_refl _ _ _, .int _ _, trivial⟩ (.int _ _) ?_)); simp -implicitDefEqProofs only [hm, push_cast, Nat.reduceEqDiff, Nat.reduceBEq, Nat.reduceBNe, Nat.reduceAdd, Nat.reduceMul, Nat.reduceLT, Nat.reduceLeDiff, Nat.reduceSub, reduceCtorEq, Int.reduceToNat, ↓reduceIte]))
    all_goals first
      | omega
      | (exfalso; omega)
      | trace_state
end Go.Proofs.YtdoclnjmcmdfdaaDoor
