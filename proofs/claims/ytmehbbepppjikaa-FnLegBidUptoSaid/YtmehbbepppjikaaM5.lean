/- Contracts of functions of the program (M5). -/
import Derived.Test.YtmehbbepppjikaaM4

namespace Go.Proofs.Ytmehbbepppjikaa
open Go.Av
set_option maxRecDepth 10000
set_option linter.unusedSimpArgs false
set_option linter.unusedVariables false

theorem settledR (l : Leg) (n : Int) (keep : Bool) (h : Hp) (hb : legB l = true) : Meets Try.prog 97 [l.d, .int .i64 n, .bool keep] h fun d' h' => d' = (settleL l n keep).dv h.length ∧ h' = h ++ (settleL l n keep).rows := by
  cases ht : thereB l n with
  | true => exact settled_some l n keep h hb ht
  | false =>
    have e : settleL l n keep = l := by rw [settleL, ht]; rfl
    rw [e]
    exact settled_none l n keep h hb ht
theorem FzL2 {h : Hp} {q : Nat} {l : Leg} {n : Int} (H : LegAt h q l) : FzL h [l.dv q, .int .i64 n] [l.d, .int .i64 n] := ⟨H.fw, l.cl0 0, fw_refl _ _ _, .int _ _, trivial⟩
theorem Leg.dv_nm (l : Leg) {n r : Nat} (h : n ≤ r) : NM n (l.dv r) := .agg _ (l.dvc_nm h)
theorem FzLd {h : Hp} {q : Nat} {l l' : Leg} (H : LegAt h q l) : FzL h [l.dv q, l'.d] [l.d, l'.d] := ⟨H.fw, l.cl0 0, fw_refl _ _ _, l'.cl0 0, trivial⟩
theorem legAt_of {h g : Hp} {q : Nat} {l : Leg} (k : Nat) (e : q = h.length + k) (e0 : ob g k = .row (l.limits.map (.int .i64))) (e1 : ob g (k + 1) = .row (l.sold.map (.int .i64))) (e2 : ob g (k + 2) = .row (l.bids.map (.int .i64))) (e3 : ob g (k + 3) = .row (l.holds.flatMap Hold.cs)) (hl : k + 3 < g.length) : LegAt (h ++ g) q l := by
  subst e
  exact ⟨by rw [ob_app]; exact e0, by rw [Nat.add_assoc, ob_app]; exact e1, by rw [Nat.add_assoc, ob_app]; exact e2, by rw [Nat.add_assoc, ob_app]; exact e3, by rw [List.length_append]; omega⟩

theorem implLegDrop_bad (l : Leg) (n : Int) (h : Hp) (hb : legB l = false) : Gives Try.prog 47 [l.d, .int .i64 n] h (Leg.d default) := by
  refine meets_of [] mixed Try.func47 rfl (by kernel_rfl) (by kernel_rfl) (by rw [Try.ntmps47]; simp only [List.length_cons, List.length_nil]; omega) (fun hf => ?_)
  rw [Try.results47]
  clear hf
  try simp -implicitDefEqProofs only [push_cast, Nat.reduceEqDiff, Nat.reduceBEq, Nat.reduceBNe, Nat.reduceAdd, Nat.reduceMul, Nat.reduceLT, Nat.reduceLeDiff, Nat.reduceSub, reduceCtorEq, Int.reduceToNat, ↓reduceIte]
  repeat'
    (first
     | (refine uYes ?_; first | exact List.mem_cons_self | (simp only [List.mem_cons, List.not_mem_nil, or_false, true_or, or_true]; done))
     | (refine uNo (by kernel_rfl))
     | (refine flatMk ?_; kernel_rfl)
     | (refine And.intro ?_ ?_)
     | (intro hx)
     | ((first
         | (refine callGF ?_)
         | (refine callQGF ?_)
         | (refine skipG ?_)
         | (refine callS (settled_bad l n false _ hb) ?_)
         | (refine callQ (settled_bad l n false _ hb) ?_)
         | (refine callG (fun hc => (settled_bad l n false _ hb)) ?_)
         | (refine callQG (fun hc => (settled_bad l n false _ hb)) ?_)); simp -implicitDefEqProofs only [push_cast, Nat.reduceEqDiff, Nat.reduceBEq, Nat.reduceBNe, Nat.reduceAdd, Nat.reduceMul, Nat.reduceLT, Nat.reduceLeDiff, Nat.reduceSub, reduceCtorEq, Int.reduceToNat, ↓reduceIte]))
  all_goals first
    | rfl
    | trace_state
theorem implLegDropR (l : Leg) (n : Int) (h : Hp) {m : Nat} (hm : h.length = m) (hb : legB l = true) : Meets Try.prog 47 [l.d, .int .i64 n] h fun d' h' => d' = (settleL l n false).dv m ∧ h' = h ++ (settleL l n false).rows := by
  subst hm
  refine Meets.compact (hb := h) (junk := [.row l.cs, .row ((settleL l n false).dvc (h.length + 2))]) (rows1 := (settleL l n false).rows) rfl (old_ob h) (Leg.dv_ren _ (Nat.le_refl _)) rfl (Leg.rows_ren _ _ _) ?_
  generalize e : settleL l n false = l'
  refine meets_of [] mixed Try.func47 rfl (by kernel_rfl) (by kernel_rfl) (by rw [Try.ntmps47]; simp only [List.length_cons, List.length_nil]; omega) (fun hf => ?_)
  rw [Try.results47]
  clear hf
  try simp -implicitDefEqProofs only [Leg.dv, Leg.dvc, Leg.rows, push_cast, Nat.reduceEqDiff, Nat.reduceBEq, Nat.reduceBNe, Nat.reduceAdd, Nat.reduceMul, Nat.reduceLT, Nat.reduceLeDiff, Nat.reduceSub, reduceCtorEq, Int.reduceToNat, ↓reduceIte]
  repeat'
    (first
     | (refine uYes ?_; first | exact List.mem_cons_self | (simp only [List.mem_cons, List.not_mem_nil, or_false, true_or, or_true]; done))
     | (refine uNo (by kernel_rfl))
     | (refine flatMk ?_; kernel_rfl)
     | (refine And.intro ?_ ?_)
     | (intro hx)
     | ((first
         | (refine callGF ?_)
         | (refine callQGF ?_)
         | (refine skipG ?_)
         | (refine callM (e ▸ settledR l n false _ hb) ?_)); simp -implicitDefEqProofs only [Leg.dv, Leg.dvc, Leg.rows, push_cast, Nat.reduceEqDiff, Nat.reduceBEq, Nat.reduceBNe, Nat.reduceAdd, Nat.reduceMul, Nat.reduceLT, Nat.reduceLeDiff, Nat.reduceSub, reduceCtorEq, Int.reduceToNat, ↓reduceIte]))
  all_goals first
    | omega
    | rfl
    | exact ints_cl _ _ _ hx
    | exact holds_cl _ _ _ hx
    | trace_state

theorem implLegKeep_bad (l : Leg) (n : Int) (h : Hp) (hb : legB l = false) : Gives Try.prog 43 [l.d, .int .i64 n] h (Leg.d default) := by
  refine meets_of [] mixed Try.func43 rfl (by kernel_rfl) (by kernel_rfl) (by rw [Try.ntmps43]; simp only [List.length_cons, List.length_nil]; omega) (fun hf => ?_)
  rw [Try.results43]
  clear hf
  try simp -implicitDefEqProofs only [push_cast, Nat.reduceEqDiff, Nat.reduceBEq, Nat.reduceBNe, Nat.reduceAdd, Nat.reduceMul, Nat.reduceLT, Nat.reduceLeDiff, Nat.reduceSub, reduceCtorEq, Int.reduceToNat, ↓reduceIte]
  repeat'
    (first
     | (refine uYes ?_; first | exact List.mem_cons_self | (simp only [List.mem_cons, List.not_mem_nil, or_false, true_or, or_true]; done))
     | (refine uNo (by kernel_rfl))
     | (refine flatMk ?_; kernel_rfl)
     | (refine And.intro ?_ ?_)
     | (intro hx)
     | ((first
         | (refine callGF ?_)
         | (refine callQGF ?_)
         | (refine skipG ?_)
         | (refine callS (settled_bad l n true _ hb) ?_)
         | (refine callQ (settled_bad l n true _ hb) ?_)
         | (refine callG (fun hc => (settled_bad l n true _ hb)) ?_)
         | (refine callQG (fun hc => (settled_bad l n true _ hb)) ?_)); simp -implicitDefEqProofs only [push_cast, Nat.reduceEqDiff, Nat.reduceBEq, Nat.reduceBNe, Nat.reduceAdd, Nat.reduceMul, Nat.reduceLT, Nat.reduceLeDiff, Nat.reduceSub, reduceCtorEq, Int.reduceToNat, ↓reduceIte]))
  all_goals first
    | rfl
    | trace_state
theorem implLegKeepR (l : Leg) (n : Int) (h : Hp) {m : Nat} (hm : h.length = m) (hb : legB l = true) : Meets Try.prog 43 [l.d, .int .i64 n] h fun d' h' => d' = (settleL l n true).dv m ∧ h' = h ++ (settleL l n true).rows := by
  subst hm
  refine Meets.compact (hb := h) (junk := [.row l.cs, .row ((settleL l n true).dvc (h.length + 2))]) (rows1 := (settleL l n true).rows) rfl (old_ob h) (Leg.dv_ren _ (Nat.le_refl _)) rfl (Leg.rows_ren _ _ _) ?_
  generalize e : settleL l n true = l'
  refine meets_of [] mixed Try.func43 rfl (by kernel_rfl) (by kernel_rfl) (by rw [Try.ntmps43]; simp only [List.length_cons, List.length_nil]; omega) (fun hf => ?_)
  rw [Try.results43]
  clear hf
  try simp -implicitDefEqProofs only [Leg.dv, Leg.dvc, Leg.rows, push_cast, Nat.reduceEqDiff, Nat.reduceBEq, Nat.reduceBNe, Nat.reduceAdd, Nat.reduceMul, Nat.reduceLT, Nat.reduceLeDiff, Nat.reduceSub, reduceCtorEq, Int.reduceToNat, ↓reduceIte]
  repeat'
    (first
     | (refine uYes ?_; first | exact List.mem_cons_self | (simp only [List.mem_cons, List.not_mem_nil, or_false, true_or, or_true]; done))
     | (refine uNo (by kernel_rfl))
     | (refine flatMk ?_; kernel_rfl)
     | (refine And.intro ?_ ?_)
     | (intro hx)
     | ((first
         | (refine callGF ?_)
         | (refine callQGF ?_)
         | (refine skipG ?_)
         | (refine callM (e ▸ settledR l n true _ hb) ?_)); simp -implicitDefEqProofs only [Leg.dv, Leg.dvc, Leg.rows, push_cast, Nat.reduceEqDiff, Nat.reduceBEq, Nat.reduceBNe, Nat.reduceAdd, Nat.reduceMul, Nat.reduceLT, Nat.reduceLeDiff, Nat.reduceSub, reduceCtorEq, Int.reduceToNat, ↓reduceIte]))
  all_goals first
    | omega
    | rfl
    | exact ints_cl _ _ _ hx
    | exact holds_cl _ _ _ hx
    | trace_state

theorem markIntS_nil (k : Int) (h : Hp) : Gives Try.prog 101 [.slice [] .no, .int .i64 k] h (.int .i64 k) := by
  refine meets_of [] mixed Try.func101 rfl (by kernel_rfl) (by kernel_rfl) (by rw [Try.ntmps101]; simp only [List.length_cons, List.length_nil]; omega) (fun hf => ?_)
  rw [Try.results101]
  clear hf
  simp -implicitDefEqProofs only [push_cast, Nat.reduceEqDiff, Nat.reduceBEq, Nat.reduceBNe, Nat.reduceAdd, Nat.reduceMul, Nat.reduceLT, Nat.reduceLeDiff, Nat.reduceSub, reduceCtorEq, Int.reduceToNat, ↓reduceIte]
  refine ev_loop0 [] (fun j : Unit => [(0, .slice [] .no), (1, .int .i64 k), (5, .int .i64 0)]) (fun _ => True) (fun _ => 0) () trivial trivial ?_ ?_
  · refine ⟨rfl, [], ?_⟩
    simp -implicitDefEqProofs only [Int.natCast_add, Int.cast_ofNat_Int, List.length_nil, Nat.le_refl, WeakTo, tokSts, tokOks, List.append_cancel_left_eq, exists_eq_left', exists_eq_left, List.append_cancel_left_eq, List.take_length, ObCl, and_true, true_and, push_cast, Nat.reduceEqDiff, Nat.reduceBEq, Nat.reduceBNe, Nat.reduceAdd, Nat.reduceMul, Nat.reduceLT, Nat.reduceLeDiff, Nat.reduceSub, reduceCtorEq, Int.reduceToNat, ↓reduceIte]
  · intro j hj
    try simp -implicitDefEqProofs only [push_cast, Nat.reduceEqDiff, Nat.reduceBEq, Nat.reduceBNe, Nat.reduceAdd, Nat.reduceMul, Nat.reduceLT, Nat.reduceLeDiff, Nat.reduceSub, reduceCtorEq, Int.reduceToNat, ↓reduceIte]
    repeat'
      (first
       | (refine uYes ?_; first | exact List.mem_cons_self | (simp only [List.mem_cons, List.not_mem_nil, or_false, true_or, or_true]; done))
       | (refine uNo (by kernel_rfl))
       | (refine flatMk ?_; kernel_rfl)
       | (refine And.intro ?_ ?_)
       | (intro hx)
       | ((first
           | (refine callGF ?_)
           | (refine callQGF ?_)
           | (refine skipG ?_)
           | (refine callS (in_gives ..) ?_)
           | (refine callQ (in_gives ..) ?_)
           | (refine callG (fun hc => (in_gives ..)) ?_)
           | (refine callQG (fun hc => (in_gives ..)) ?_)); simp -implicitDefEqProofs only [push_cast, Nat.reduceEqDiff, Nat.reduceBEq, Nat.reduceBNe, Nat.reduceAdd, Nat.reduceMul, Nat.reduceLT, Nat.reduceLeDiff, Nat.reduceSub, reduceCtorEq, Int.reduceToNat, ↓reduceIte]))
    all_goals first
      | omega
      | trace_state
theorem markHoldS_nil (k : Int) (h : Hp) : Gives Try.prog 102 [.slice [] .no, .int .i64 k] h (.int .i64 k) := by
  refine meets_of [] mixed Try.func102 rfl (by kernel_rfl) (by kernel_rfl) (by rw [Try.ntmps102]; simp only [List.length_cons, List.length_nil]; omega) (fun hf => ?_)
  rw [Try.results102]
  clear hf
  simp -implicitDefEqProofs only [push_cast, Nat.reduceEqDiff, Nat.reduceBEq, Nat.reduceBNe, Nat.reduceAdd, Nat.reduceMul, Nat.reduceLT, Nat.reduceLeDiff, Nat.reduceSub, reduceCtorEq, Int.reduceToNat, ↓reduceIte]
  refine ev_loop0 [] (fun j : Unit => [(0, .slice [] .no), (1, .int .i64 k), (5, .int .i64 0)]) (fun _ => True) (fun _ => 0) () trivial trivial ?_ ?_
  · refine ⟨rfl, [], ?_⟩
    simp -implicitDefEqProofs only [Int.natCast_add, Int.cast_ofNat_Int, List.length_nil, Nat.le_refl, WeakTo, tokSts, tokOks, List.append_cancel_left_eq, exists_eq_left', exists_eq_left, List.append_cancel_left_eq, List.take_length, ObCl, and_true, true_and, push_cast, Nat.reduceEqDiff, Nat.reduceBEq, Nat.reduceBNe, Nat.reduceAdd, Nat.reduceMul, Nat.reduceLT, Nat.reduceLeDiff, Nat.reduceSub, reduceCtorEq, Int.reduceToNat, ↓reduceIte]
  · intro j hj
    try simp -implicitDefEqProofs only [push_cast, Nat.reduceEqDiff, Nat.reduceBEq, Nat.reduceBNe, Nat.reduceAdd, Nat.reduceMul, Nat.reduceLT, Nat.reduceLeDiff, Nat.reduceSub, reduceCtorEq, Int.reduceToNat, ↓reduceIte]
    repeat'
      (first
       | (refine uYes ?_; first | exact List.mem_cons_self | (simp only [List.mem_cons, List.not_mem_nil, or_false, true_or, or_true]; done))
       | (refine uNo (by kernel_rfl))
       | (refine flatMk ?_; kernel_rfl)
       | (refine And.intro ?_ ?_)
       | (intro hx)
       | ((first
           | (refine callGF ?_)
           | (refine callQGF ?_)
           | (refine skipG ?_)
           | (refine callS (in_gives ..) ?_)
           | (refine callQ (in_gives ..) ?_)
           | (refine callG (fun hc => (in_gives ..)) ?_)
           | (refine callQG (fun hc => (in_gives ..)) ?_)); simp -implicitDefEqProofs only [push_cast, Nat.reduceEqDiff, Nat.reduceBEq, Nat.reduceBNe, Nat.reduceAdd, Nat.reduceMul, Nat.reduceLT, Nat.reduceLeDiff, Nat.reduceSub, reduceCtorEq, Int.reduceToNat, ↓reduceIte]))
    all_goals first
      | omega
      | trace_state
theorem markLeg_nil (k : Int) (h : Hp) : Gives Try.prog 50 [Leg.d default, .int .i64 k] h (.int .i64 k) := by
  refine meets_of [] mixed Try.func50 rfl (by kernel_rfl) (by kernel_rfl) (by rw [Try.ntmps50]; simp only [List.length_cons, List.length_nil]; omega) (fun hf => ?_)
  rw [Try.results50]
  clear hf
  try simp -implicitDefEqProofs only [push_cast, Nat.reduceEqDiff, Nat.reduceBEq, Nat.reduceBNe, Nat.reduceAdd, Nat.reduceMul, Nat.reduceLT, Nat.reduceLeDiff, Nat.reduceSub, reduceCtorEq, Int.reduceToNat, ↓reduceIte]
  repeat'
    (first
     | (refine uYes ?_; first | exact List.mem_cons_self | (simp only [List.mem_cons, List.not_mem_nil, or_false, true_or, or_true]; done))
     | (refine uNo (by kernel_rfl))
     | (refine flatMk ?_; kernel_rfl)
     | (refine And.intro ?_ ?_)
     | (intro hx)
     | ((first
         | (refine callGF ?_)
         | (refine callQGF ?_)
         | (refine skipG ?_)
         | (refine callS (markIntS_nil k _) ?_)
         | (refine callQ (markIntS_nil k _) ?_)
         | (refine callG (fun hc => (markIntS_nil k _)) ?_)
         | (refine callQG (fun hc => (markIntS_nil k _)) ?_)
         | (refine callS (markHoldS_nil k _) ?_)
         | (refine callQ (markHoldS_nil k _) ?_)
         | (refine callG (fun hc => (markHoldS_nil k _)) ?_)
         | (refine callQG (fun hc => (markHoldS_nil k _)) ?_)); simp -implicitDefEqProofs only [push_cast, Nat.reduceEqDiff, Nat.reduceBEq, Nat.reduceBNe, Nat.reduceAdd, Nat.reduceMul, Nat.reduceLT, Nat.reduceLeDiff, Nat.reduceSub, reduceCtorEq, Int.reduceToNat, ↓reduceIte]))
  all_goals trace_state
theorem Leg.nm0 {n : Nat} : NM n (Leg.d default) := by
  refine .agg _ fun c hc => ?_
  simp only [Leg.cs, List.mem_cons, List.not_mem_nil, or_false] at hc
  rcases hc with rfl | rfl | rfl | rfl | rfl | rfl | rfl | rfl | rfl | rfl
  · exact .str _
  · exact .str _
  · exact .str _
  · exact .int _ _
  · exact .int _ _
  · exact .int _ _
  all_goals exact .snil _ (fun _ _ e => nomatch e)
theorem markH_app (l : Leg) (k : Nat) (m : Int) (h g : Hp) : markH l (h.length + k) m (h ++ g) = h ++ markH l k m g := by
  simp only [markH, Nat.add_assoc, set_app]
theorem markLegA (l : Leg) (k : Nat) (m : Int) (h g : Hp) (H : LegAt (h ++ g) (h.length + k) l) (h0 : 0 ≤ m) (h1 : markE l m ≤ 4000000000000000000) :
    Meets Try.prog 50 [l.dv (h.length + k), .int .i64 m] (h ++ g) fun d' h' => d' = .int .i64 (markE l m) ∧ h' = h ++ markH l k m g := by
  rw [← markH_app]
  exact markLegR l _ m _ H h0 h1
theorem FzLm {h : Hp} {q : Nat} {l : Leg} {k n : Int} (H : LegAt h q (markL l k)) : FzL h [l.dv q, .int .i64 n] [(markL l k).d, .int .i64 n] := by
  rw [← markL_dv l k q]
  exact FzL2 H

theorem fnExactLegDrop_bad (l : Leg) (n : Int) (h : Hp) (hb : legB l = false) : Gives Try.prog 11 [l.d, .int .i64 n] h (.bool true) := by
  have hS : ∀ h, Gives Try.prog 48 [l.d, .int .i64 n] h (Leg.d default) := fun h => by
    have := specLegDrop_gives l n h 
    rwa [hb] at this
  have hm1 : markE default 1 = 1 := rfl
  refine meets_of [] mixed Try.func11 rfl (by kernel_rfl) (by kernel_rfl) (by rw [Try.ntmps11]; simp only [List.length_cons, List.length_nil]; omega) (fun hf => ?_)
  rw [Try.results11]
  obtain ⟨_, _, _, hf1, hf2, hf3, hf4⟩ := Leg.fit (hf l.d (by simp))
  clear hf
  have hm : markE l 1 ≤ 4000000000000000000 := by simp only [markE]; omega
  have hmp : decide (markE l 1 < 0) = false := decide_eq_false (by simp only [markE]; omega)
  try simp -implicitDefEqProofs only [Leg.dv, Leg.dvc, Leg.rows, eqLegB_self, hmp, markH, hm1, push_cast, Nat.reduceEqDiff, Nat.reduceBEq, Nat.reduceBNe, Nat.reduceAdd, Nat.reduceMul, Nat.reduceLT, Nat.reduceLeDiff, Nat.reduceSub, reduceCtorEq, Int.reduceToNat, ↓reduceIte]
  repeat'
    (first
     | (refine uYes ?_; first | exact List.mem_cons_self | (simp only [List.mem_cons, List.not_mem_nil, or_false, true_or, or_true]; done))
     | (refine uNo (by kernel_rfl))
     | (refine flatMk ?_; kernel_rfl)
     | (refine And.intro ?_ ?_)
     | (intro hx)
     | ((first
         | (refine callGF ?_)
         | (refine callQGF ?_)
         | (refine skipG ?_)
         | (refine callS (szLeg_gives l _ _) ?_)
         | (refine callQ (szLeg_gives l _ _) ?_)
         | (refine callG (fun hc => (szLeg_gives l _ _)) ?_)
         | (refine callQG (fun hc => (szLeg_gives l _ _)) ?_)
         | (refine callS (dst := some 19) (toLeg_gives l _) ?_)
         | (refine callM (dst := some 23) (toLegR l _) ?_)
         | (refine callQ (toLeg_gives l _) ?_)
         | (refine callS (dst := some 59) (toLeg_gives l _) ?_)
         | (refine callS (hS _) ?_)
         | (refine callQ (hS _) ?_)
         | (refine callG (fun hc => (hS _)) ?_)
         | (refine callQG (fun hc => (hS _)) ?_)
         | (refine fzS (dst := some 26) (implLegDrop_bad l n _ hb) (FzL2 (l := l) (legAt_of 2 rfl rfl rfl rfl rfl (by simp))) Leg.nm0 ?_)
         | (refine callS (implLegDrop_bad l n _ hb) ?_)
         | (refine callQ (implLegDrop_bad l n _ hb) ?_)
         | (refine callG (fun hc => (implLegDrop_bad l n _ hb)) ?_)
         | (refine callQG (fun hc => (implLegDrop_bad l n _ hb)) ?_)
         | (refine callS (eqLeg_gives default default _) ?_)
         | (refine callQ (eqLeg_gives default default _) ?_)
         | (refine callG (fun hc => (eqLeg_gives default default _)) ?_)
         | (refine callQG (fun hc => (eqLeg_gives default default _)) ?_)
         | (refine fzQ (eqLeg_gives l l _) (FzLd (legAt_of 2 rfl rfl rfl rfl rfl (by simp))) (.bool _) ?_)
         | (refine callM (markLegA l 2 1 h _ (legAt_of 2 rfl rfl rfl rfl rfl (by simp)) (by omega) hm) ?_)
         | (refine callS (markLeg_nil _ _) ?_)
         | (refine callQ (markLeg_nil _ _) ?_)
         | (refine callG (fun hc => (markLeg_nil _ _)) ?_)
         | (refine callQG (fun hc => (markLeg_nil _ _)) ?_)
         | (refine callS (heldLeg_gives default 1 _ (by omega) (by omega)) ?_)
         | (refine callQ (heldLeg_gives default 1 _ (by omega) (by omega)) ?_)
         | (refine callG (fun hc => (heldLeg_gives default 1 _ (by omega) (by omega))) ?_)
         | (refine callQG (fun hc => (heldLeg_gives default 1 _ (by omega) (by omega))) ?_)); simp -implicitDefEqProofs only [Leg.dv, Leg.dvc, Leg.rows, eqLegB_self, hmp, markH, hm1, push_cast, Nat.reduceEqDiff, Nat.reduceBEq, Nat.reduceBNe, Nat.reduceAdd, Nat.reduceMul, Nat.reduceLT, Nat.reduceLeDiff, Nat.reduceSub, reduceCtorEq, Int.reduceToNat, ↓reduceIte]))
  all_goals first
    | omega
    | trace_state
theorem fnExactLegDrop_ok (l : Leg) (n : Int) (h : Hp) (hb : legB l = true) : Gives Try.prog 11 [l.d, .int .i64 n] h (.bool true) := by
  have hp := legP_of hb
  have hS0 : ∀ h, Gives Try.prog 48 [l.d, .int .i64 n] h (settleL l n false).d := fun h => by
    have := specLegDrop_gives l n h 
    rw [hb] at this
    rwa [settleL_drop]
  have hI0 := fun h m (e : List.length h = m) => implLegDropR l n h e hb
  have hw0 : (settleL l n false).limits.length = 3 ∧ (settleL l n false).sold.length = 3 ∧ (settleL l n false).bids.length ≤ 4 ∧ (settleL l n false).holds.length ≤ 6 := by
    have := hp.bids
    have := hp.holds
    have h1 := hp.limits
    have h2 := hp.sold
    rw [settleL]
    split
    · refine ⟨h1, ?_, hp.bids.2, ?_⟩
      · simp only [soldV]; split <;> simp [h2]
      · have := List.length_eraseIdx_le l.holds (placeN l n)
        show (l.holds.eraseIdx _).length ≤ 6
        omega
    · exact ⟨h1, h2, by omega, by omega⟩
  generalize settleL l n false = w at hS0 hI0 hw0
  refine meets_of [] mixed Try.func11 rfl (by kernel_rfl) (by kernel_rfl) (by rw [Try.ntmps11]; simp only [List.length_cons, List.length_nil]; omega) (fun hf => ?_)
  rw [Try.results11]
  obtain ⟨_, _, _, hf1, hf2, hf3, hf4⟩ := Leg.fit (hf l.d (by simp))
  clear hf
  have hm : markE l 1 ≤ 4000000000000000000 := by simp only [markE]; omega
  have hmp : decide (markE l 1 < 0) = false := decide_eq_false (by simp only [markE]; omega)
  have hm' : markE w 1 ≤ 4000000000000000000 := by simp only [markE]; omega
  have hmp' : decide (markE w 1 < 0) = false := decide_eq_false (by simp only [markE]; omega)
  try simp -implicitDefEqProofs only [Leg.dv, Leg.dvc, Leg.rows, eqLegB_self, hmp, hmp', markH, push_cast, Nat.reduceEqDiff, Nat.reduceBEq, Nat.reduceBNe, Nat.reduceAdd, Nat.reduceMul, Nat.reduceLT, Nat.reduceLeDiff, Nat.reduceSub, reduceCtorEq, Int.reduceToNat, ↓reduceIte]
  repeat'
    (first
     | (refine uYes ?_; first | exact List.mem_cons_self | (simp only [List.mem_cons, List.not_mem_nil, or_false, true_or, or_true]; done))
     | (refine uNo (by kernel_rfl))
     | (refine flatMk ?_; kernel_rfl)
     | (refine And.intro ?_ ?_)
     | (intro hx)
     | ((first
         | (refine callGF ?_)
         | (refine callQGF ?_)
         | (refine skipG ?_)
         | (refine callS (szLeg_gives l _ _) ?_)
         | (refine callQ (szLeg_gives l _ _) ?_)
         | (refine callG (fun hc => (szLeg_gives l _ _)) ?_)
         | (refine callQG (fun hc => (szLeg_gives l _ _)) ?_)
         | (refine callS (dst := some 19) (toLeg_gives l _) ?_)
         | (refine callM (dst := some 23) (toLegR l _) ?_)
         | (refine callQ (toLeg_gives l _) ?_)
         | (refine callS (dst := some 59) (toLeg_gives l _) ?_)
         | (refine callS (hS0 _) ?_)
         | (refine callQ (hS0 _) ?_)
         | (refine callG (fun hc => (hS0 _)) ?_)
         | (refine callQG (fun hc => (hS0 _)) ?_)
         | (refine fzM (dst := some 26) (hI0 _ _ (deadOf_length _)) (FzL2 (l := l) (legAt_of 2 rfl rfl rfl rfl rfl (by simp))) (w.dv_nm (Nat.le_refl _)) (w.rows_nm _) ?_)
         | (refine callM (dst := some 61) (hI0 _ _ rfl) ?_)
         | (refine fzS (dst := some 29) (eqLeg_gives w w _) (FzLd (legAt_of 7 rfl rfl rfl rfl rfl (by simp))) (.bool _) ?_)
         | (refine fzQ (eqLeg_gives l l _) (FzLd (legAt_of 2 rfl rfl rfl rfl rfl (by simp))) (.bool _) ?_)
         | (refine callM (dst := some 38) (markLegA l 2 1 h _ (legAt_of 2 rfl rfl rfl rfl rfl (by simp)) (by omega) hm) ?_)
         | (refine fzG (fun _ => eqLeg_gives w w _) (fun _ => FzLd (legAt_of 7 rfl rfl rfl rfl rfl (by simp))) (.bool _) ?_)
         | (refine callM (dst := some 49) (markLegA w 7 1 h _ (legAt_of 7 rfl rfl rfl rfl rfl (by simp)) (by omega) hm') ?_)
         | (refine fzS (dst := some 52) (heldLeg_gives w 1 _ (by omega) hm') (FzLm (legAt_of 7 rfl rfl rfl rfl (congrArg Ob.row (seqH_flat _ _)) (by simp))) (.int _ _) ?_)
         | (refine fzS (dst := some 64) (eqLeg_gives w w _) (FzLd (legAt_of 12 rfl rfl rfl rfl rfl (by simp))) (.bool _) ?_)
         | (refine fzS (dst := some 68) (heldLeg_gives w 1 _ (by omega) hm') (FzLm (legAt_of 7 rfl rfl rfl rfl (congrArg Ob.row (seqH_flat _ _)) (by simp))) (.int _ _) ?_)); simp -implicitDefEqProofs only [Leg.dv, Leg.dvc, Leg.rows, eqLegB_self, hmp, hmp', markH, push_cast, Nat.reduceEqDiff, Nat.reduceBEq, Nat.reduceBNe, Nat.reduceAdd, Nat.reduceMul, Nat.reduceLT, Nat.reduceLeDiff, Nat.reduceSub, reduceCtorEq, Int.reduceToNat, ↓reduceIte]))
  all_goals first
    | omega
    | trace_state
theorem fnExactLegDrop_gives (l : Leg) (n : Int) (h : Hp) : Gives Try.prog 11 [l.d, .int .i64 n] h (.bool true) := by
  cases hb : legB l with
  | true => exact fnExactLegDrop_ok l n h hb
  | false => exact fnExactLegDrop_bad l n h hb

theorem fnExactLegKeep_bad (l : Leg) (n : Int) (h : Hp) (hb : legB l = false) : Gives Try.prog 12 [l.d, .int .i64 n] h (.bool true) := by
  have hS : ∀ h, Gives Try.prog 45 [l.d, .int .i64 n] h (Leg.d default) := fun h => by
    have := specLegKeep_gives l n h (fun e => by rw [hb] at e; cases e)
    rwa [hb] at this
  have hm1 : markE default 1 = 1 := rfl
  refine meets_of [] mixed Try.func12 rfl (by kernel_rfl) (by kernel_rfl) (by rw [Try.ntmps12]; simp only [List.length_cons, List.length_nil]; omega) (fun hf => ?_)
  rw [Try.results12]
  obtain ⟨_, _, _, hf1, hf2, hf3, hf4⟩ := Leg.fit (hf l.d (by simp))
  clear hf
  have hm : markE l 1 ≤ 4000000000000000000 := by simp only [markE]; omega
  have hmp : decide (markE l 1 < 0) = false := decide_eq_false (by simp only [markE]; omega)
  try simp -implicitDefEqProofs only [Leg.dv, Leg.dvc, Leg.rows, eqLegB_self, hmp, markH, hm1, push_cast, Nat.reduceEqDiff, Nat.reduceBEq, Nat.reduceBNe, Nat.reduceAdd, Nat.reduceMul, Nat.reduceLT, Nat.reduceLeDiff, Nat.reduceSub, reduceCtorEq, Int.reduceToNat, ↓reduceIte]
  repeat'
    (first
     | (refine uYes ?_; first | exact List.mem_cons_self | (simp only [List.mem_cons, List.not_mem_nil, or_false, true_or, or_true]; done))
     | (refine uNo (by kernel_rfl))
     | (refine flatMk ?_; kernel_rfl)
     | (refine And.intro ?_ ?_)
     | (intro hx)
     | ((first
         | (refine callGF ?_)
         | (refine callQGF ?_)
         | (refine skipG ?_)
         | (refine callS (szLeg_gives l _ _) ?_)
         | (refine callQ (szLeg_gives l _ _) ?_)
         | (refine callG (fun hc => (szLeg_gives l _ _)) ?_)
         | (refine callQG (fun hc => (szLeg_gives l _ _)) ?_)
         | (refine callS (dst := some 19) (toLeg_gives l _) ?_)
         | (refine callM (dst := some 23) (toLegR l _) ?_)
         | (refine callQ (toLeg_gives l _) ?_)
         | (refine callS (dst := some 59) (toLeg_gives l _) ?_)
         | (refine callS (hS _) ?_)
         | (refine callQ (hS _) ?_)
         | (refine callG (fun hc => (hS _)) ?_)
         | (refine callQG (fun hc => (hS _)) ?_)
         | (refine fzS (dst := some 26) (implLegKeep_bad l n _ hb) (FzL2 (l := l) (legAt_of 2 rfl rfl rfl rfl rfl (by simp))) Leg.nm0 ?_)
         | (refine callS (implLegKeep_bad l n _ hb) ?_)
         | (refine callQ (implLegKeep_bad l n _ hb) ?_)
         | (refine callG (fun hc => (implLegKeep_bad l n _ hb)) ?_)
         | (refine callQG (fun hc => (implLegKeep_bad l n _ hb)) ?_)
         | (refine callS (eqLeg_gives default default _) ?_)
         | (refine callQ (eqLeg_gives default default _) ?_)
         | (refine callG (fun hc => (eqLeg_gives default default _)) ?_)
         | (refine callQG (fun hc => (eqLeg_gives default default _)) ?_)
         | (refine fzQ (eqLeg_gives l l _) (FzLd (legAt_of 2 rfl rfl rfl rfl rfl (by simp))) (.bool _) ?_)
         | (refine callM (markLegA l 2 1 h _ (legAt_of 2 rfl rfl rfl rfl rfl (by simp)) (by omega) hm) ?_)
         | (refine callS (markLeg_nil _ _) ?_)
         | (refine callQ (markLeg_nil _ _) ?_)
         | (refine callG (fun hc => (markLeg_nil _ _)) ?_)
         | (refine callQG (fun hc => (markLeg_nil _ _)) ?_)
         | (refine callS (heldLeg_gives default 1 _ (by omega) (by omega)) ?_)
         | (refine callQ (heldLeg_gives default 1 _ (by omega) (by omega)) ?_)
         | (refine callG (fun hc => (heldLeg_gives default 1 _ (by omega) (by omega))) ?_)
         | (refine callQG (fun hc => (heldLeg_gives default 1 _ (by omega) (by omega))) ?_)); simp -implicitDefEqProofs only [Leg.dv, Leg.dvc, Leg.rows, eqLegB_self, hmp, markH, hm1, push_cast, Nat.reduceEqDiff, Nat.reduceBEq, Nat.reduceBNe, Nat.reduceAdd, Nat.reduceMul, Nat.reduceLT, Nat.reduceLeDiff, Nat.reduceSub, reduceCtorEq, Int.reduceToNat, ↓reduceIte]))
  all_goals first
    | omega
    | trace_state
theorem fnExactLegKeep_ok (l : Leg) (n : Int) (h : Hp) (hb : legB l = true) : Gives Try.prog 12 [l.d, .int .i64 n] h (.bool true) := by
  have hp := legP_of hb
  have hS0 : ∀ h, Gives Try.prog 45 [l.d, .int .i64 n] h (settleL l n true).d := fun h => by
    have := specLegKeep_gives l n h (fun _ ht => hp.cls (thereB_t ht))
    rw [hb] at this
    rwa [settleL_keep]
  have hI0 := fun h m (e : List.length h = m) => implLegKeepR l n h e hb
  have hw0 : (settleL l n true).limits.length = 3 ∧ (settleL l n true).sold.length = 3 ∧ (settleL l n true).bids.length ≤ 4 ∧ (settleL l n true).holds.length ≤ 6 := by
    have := hp.bids
    have := hp.holds
    have h1 := hp.limits
    have h2 := hp.sold
    rw [settleL]
    split
    · refine ⟨h1, ?_, hp.bids.2, ?_⟩
      · simp only [soldV]; split <;> simp [h2]
      · have := List.length_eraseIdx_le l.holds (placeN l n)
        show (l.holds.eraseIdx _).length ≤ 6
        omega
    · exact ⟨h1, h2, by omega, by omega⟩
  generalize settleL l n true = w at hS0 hI0 hw0
  refine meets_of [] mixed Try.func12 rfl (by kernel_rfl) (by kernel_rfl) (by rw [Try.ntmps12]; simp only [List.length_cons, List.length_nil]; omega) (fun hf => ?_)
  rw [Try.results12]
  obtain ⟨_, _, _, hf1, hf2, hf3, hf4⟩ := Leg.fit (hf l.d (by simp))
  clear hf
  have hm : markE l 1 ≤ 4000000000000000000 := by simp only [markE]; omega
  have hmp : decide (markE l 1 < 0) = false := decide_eq_false (by simp only [markE]; omega)
  have hm' : markE w 1 ≤ 4000000000000000000 := by simp only [markE]; omega
  have hmp' : decide (markE w 1 < 0) = false := decide_eq_false (by simp only [markE]; omega)
  try simp -implicitDefEqProofs only [Leg.dv, Leg.dvc, Leg.rows, eqLegB_self, hmp, hmp', markH, push_cast, Nat.reduceEqDiff, Nat.reduceBEq, Nat.reduceBNe, Nat.reduceAdd, Nat.reduceMul, Nat.reduceLT, Nat.reduceLeDiff, Nat.reduceSub, reduceCtorEq, Int.reduceToNat, ↓reduceIte]
  repeat'
    (first
     | (refine uYes ?_; first | exact List.mem_cons_self | (simp only [List.mem_cons, List.not_mem_nil, or_false, true_or, or_true]; done))
     | (refine uNo (by kernel_rfl))
     | (refine flatMk ?_; kernel_rfl)
     | (refine And.intro ?_ ?_)
     | (intro hx)
     | ((first
         | (refine callGF ?_)
         | (refine callQGF ?_)
         | (refine skipG ?_)
         | (refine callS (szLeg_gives l _ _) ?_)
         | (refine callQ (szLeg_gives l _ _) ?_)
         | (refine callG (fun hc => (szLeg_gives l _ _)) ?_)
         | (refine callQG (fun hc => (szLeg_gives l _ _)) ?_)
         | (refine callS (dst := some 19) (toLeg_gives l _) ?_)
         | (refine callM (dst := some 23) (toLegR l _) ?_)
         | (refine callQ (toLeg_gives l _) ?_)
         | (refine callS (dst := some 59) (toLeg_gives l _) ?_)
         | (refine callS (hS0 _) ?_)
         | (refine callQ (hS0 _) ?_)
         | (refine callG (fun hc => (hS0 _)) ?_)
         | (refine callQG (fun hc => (hS0 _)) ?_)
         | (refine fzM (dst := some 26) (hI0 _ _ (deadOf_length _)) (FzL2 (l := l) (legAt_of 2 rfl rfl rfl rfl rfl (by simp))) (w.dv_nm (Nat.le_refl _)) (w.rows_nm _) ?_)
         | (refine callM (dst := some 61) (hI0 _ _ rfl) ?_)
         | (refine fzS (dst := some 29) (eqLeg_gives w w _) (FzLd (legAt_of 7 rfl rfl rfl rfl rfl (by simp))) (.bool _) ?_)
         | (refine fzQ (eqLeg_gives l l _) (FzLd (legAt_of 2 rfl rfl rfl rfl rfl (by simp))) (.bool _) ?_)
         | (refine callM (dst := some 38) (markLegA l 2 1 h _ (legAt_of 2 rfl rfl rfl rfl rfl (by simp)) (by omega) hm) ?_)
         | (refine fzG (fun _ => eqLeg_gives w w _) (fun _ => FzLd (legAt_of 7 rfl rfl rfl rfl rfl (by simp))) (.bool _) ?_)
         | (refine callM (dst := some 49) (markLegA w 7 1 h _ (legAt_of 7 rfl rfl rfl rfl rfl (by simp)) (by omega) hm') ?_)
         | (refine fzS (dst := some 52) (heldLeg_gives w 1 _ (by omega) hm') (FzLm (legAt_of 7 rfl rfl rfl rfl (congrArg Ob.row (seqH_flat _ _)) (by simp))) (.int _ _) ?_)
         | (refine fzS (dst := some 64) (eqLeg_gives w w _) (FzLd (legAt_of 12 rfl rfl rfl rfl rfl (by simp))) (.bool _) ?_)
         | (refine fzS (dst := some 68) (heldLeg_gives w 1 _ (by omega) hm') (FzLm (legAt_of 7 rfl rfl rfl rfl (congrArg Ob.row (seqH_flat _ _)) (by simp))) (.int _ _) ?_)); simp -implicitDefEqProofs only [Leg.dv, Leg.dvc, Leg.rows, eqLegB_self, hmp, hmp', markH, push_cast, Nat.reduceEqDiff, Nat.reduceBEq, Nat.reduceBNe, Nat.reduceAdd, Nat.reduceMul, Nat.reduceLT, Nat.reduceLeDiff, Nat.reduceSub, reduceCtorEq, Int.reduceToNat, ↓reduceIte]))
  all_goals first
    | omega
    | trace_state
theorem fnExactLegKeep_gives (l : Leg) (n : Int) (h : Hp) : Gives Try.prog 12 [l.d, .int .i64 n] h (.bool true) := by
  cases hb : legB l with
  | true => exact fnExactLegKeep_ok l n h hb
  | false => exact fnExactLegKeep_bad l n h hb
end Go.Proofs.Ytmehbbepppjikaa
