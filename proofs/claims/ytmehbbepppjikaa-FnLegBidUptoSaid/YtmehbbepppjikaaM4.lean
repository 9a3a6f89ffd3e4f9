/- Contracts of functions of the program (M4). -/
import Derived.Test.YtmehbbepppjikaaM3

namespace Go.Proofs.Ytmehbbepppjikaa
open Go.Av
set_option maxRecDepth 10000
set_option linter.unusedSimpArgs false
set_option linter.unusedVariables false

theorem back_pre {h hb junk : Hp} (hl : hb.length = h.length) (H : ∀ (k : Nat) y, hb[k]? = some y → h[k]? = some y ∨ ObCl h.length y) : Back h (hb ++ junk) hb := by
  refine ⟨by omega, by simp, by simp, fun k x hx => ?_⟩
  rw [hl]
  exact H k x hx
/-- the marks of a leg whose slices are this long -/
def markE (l : Leg) (k : Int) : Int := k + l.limits.length + l.sold.length + l.bids.length + l.holds.length * 3
def markH (l : Leg) (q : Nat) (k : Int) (h : Hp) : Hp :=
  (((h.set q (.row ((seqI k l.limits.length).map (.int .i64)))).set (q + 1) (.row ((seqI (k + l.limits.length) l.sold.length).map (.int .i64)))).set (q + 2) (.row ((seqI (k + l.limits.length + l.sold.length) l.bids.length).map (.int .i64)))).set (q + 3) (.row ((seqI (k + l.limits.length + l.sold.length + l.bids.length) (l.holds.length * 3)).map (.int .i64)))
theorem markLegR (l : Leg) (q : Nat) (k : Int) (h : Hp) (H : LegAt h q l) (h0 : 0 ≤ k) (h1 : markE l k ≤ 4000000000000000000) :
    Meets Try.prog 50 [l.dv q, .int .i64 k] h fun d' h' => d' = .int .i64 (markE l k) ∧ h' = markH l q k h := by
  obtain ⟨e1, e2, e3, e4, hq⟩ := H
  simp only [markE] at h1
  have hn : (l.holds.flatMap Hold.cs).length = l.holds.length * 3 := flatMap_length (f := Hold.cs) (m := 3) (fun _ => rfl) _
  refine meets_of [] mixed Try.func50 rfl (by kernel_rfl) (by kernel_rfl) (by rw [Try.ntmps50]; simp only [List.length_cons, List.length_nil]; omega) (fun hf => ?_)
  rw [Try.results50]
  clear hf
  have s1 : ∀ x ls, (h ++ ls).set q x = h.set q x ++ ls := fun x ls => List.set_append_left _ _ (by omega)
  have s2 : ∀ x y ls, (h.set q x ++ ls).set (q + 1) y = (h.set q x).set (q + 1) y ++ ls := fun x y ls => List.set_append_left _ _ (by simp; omega)
  have s3 : ∀ x y z ls, ((h.set q x).set (q + 1) y ++ ls).set (q + 2) z = ((h.set q x).set (q + 1) y).set (q + 2) z ++ ls := fun x y z ls => List.set_append_left _ _ (by simp; omega)
  have s4 : ∀ x y z u ls, (((h.set q x).set (q + 1) y).set (q + 2) z ++ ls).set (q + 3) u = (((h.set q x).set (q + 1) y).set (q + 2) z).set (q + 3) u ++ ls := fun x y z u ls => List.set_append_left _ _ (by simp; omega)
  have p1 : ∀ x ls, ob (h.set q x ++ ls) h.length = ob ls 0 := fun x ls => by have := ob_app0 (h.set q x) ls; simpa using this
  have p2 : ∀ x y ls, ob ((h.set q x).set (q + 1) y ++ ls) h.length = ob ls 0 := fun x y ls => by have := ob_app0 ((h.set q x).set (q + 1) y) ls; simpa using this
  have p3 : ∀ x y z ls, ob (((h.set q x).set (q + 1) y).set (q + 2) z ++ ls) h.length = ob ls 0 := fun x y z ls => by have := ob_app0 (((h.set q x).set (q + 1) y).set (q + 2) z) ls; simpa using this
  have w2 : ∀ x ls, ob (h.set q x ++ ls) (q + 1) = .row (l.sold.map (.int .i64)) := fun x ls => by rw [ob_app_l (by simp; omega), ob_set_ne (by omega), e2]
  have w3 : ∀ x y ls, ob ((h.set q x).set (q + 1) y ++ ls) (q + 2) = .row (l.bids.map (.int .i64)) := fun x y ls => by rw [ob_app_l (by simp; omega), ob_set_ne (by omega), ob_set_ne (by omega), e3]
  have w4 : ∀ x y z ls, ob (((h.set q x).set (q + 1) y).set (q + 2) z ++ ls) (q + 3) = .row (l.holds.flatMap Hold.cs) := fun x y z ls => by rw [ob_app_l (by simp; omega), ob_set_ne (by omega), ob_set_ne (by omega), ob_set_ne (by omega), e4]
  try simp -implicitDefEqProofs only [Leg.dv, Leg.dvc, markE, s1, s2, s3, s4, p1, p2, p3, List.length_set, push_cast, Nat.reduceEqDiff, Nat.reduceBEq, Nat.reduceBNe, Nat.reduceAdd, Nat.reduceMul, Nat.reduceLT, Nat.reduceLeDiff, Nat.reduceSub, reduceCtorEq, Int.reduceToNat, ↓reduceIte]
  repeat'
    (first
     | (refine uYes ?_; first | exact List.mem_cons_self | (simp only [List.mem_cons, List.not_mem_nil, or_false, true_or, or_true]; done))
     | (refine uNo (by kernel_rfl))
     | (refine flatMk ?_; kernel_rfl)
     | (refine And.intro ?_ ?_)
     | (intro hx)
     | ((first
         | (refine callGF ?_)
         | (refine callQGF ?_)
         | (refine skipG ?_)
         | (refine callM (markIntSR k _ q _ _ _ (by rw [ob_app_l (by omega)]; exact e1) (by simp; omega) (by simp) (ints_cl _ _) h0 (by omega)) ?_)
         | (refine callM (markIntSR (k + l.limits.length) _ (q + 1) _ _ _ (w2 _ _) (by simp; omega) (by simp) (ints_cl _ _) (by omega) (by omega)) ?_)
         | (refine callM (markIntSR (k + l.limits.length + l.sold.length) _ (q + 2) _ _ _ (w3 _ _ _) (by simp; omega) (by simp) (ints_cl _ _) (by omega) (by omega)) ?_)
         | (refine callM (markHoldSR (k + l.limits.length + l.sold.length + l.bids.length) _ (q + 3) _ _ _ (w4 _ _ _ _) (by simp; omega) hn.symm (holds_cl _ _) (by omega) (by omega)) ?_)); simp -implicitDefEqProofs only [Leg.dv, Leg.dvc, markE, s1, s2, s3, s4, p1, p2, p3, List.length_set, push_cast, Nat.reduceEqDiff, Nat.reduceBEq, Nat.reduceBNe, Nat.reduceAdd, Nat.reduceMul, Nat.reduceLT, Nat.reduceLeDiff, Nat.reduceSub, reduceCtorEq, Int.reduceToNat, ↓reduceIte]))
  all_goals first
    | omega
    | rfl
    | exact back_pre (by simp) (old_set (old_set (old_set (old_set (old_id h _) _ (cl_ints _ _)) _ (cl_ints _ _)) _ (cl_ints _ _)) _ (cl_ints _ _))
    | trace_state

/-- a leg whose slices are marked from k on -/
def markL (l : Leg) (k : Int) : Leg := { l with limits := seqI k l.limits.length, sold := seqI (k + l.limits.length) l.sold.length, bids := seqI (k + l.limits.length + l.sold.length) l.bids.length, holds := seqH (k + l.limits.length + l.sold.length + l.bids.length) l.holds.length }
theorem markL_dv (l : Leg) (k : Int) (q : Nat) : (markL l k).dv q = l.dv q := by
  simp only [markL, Leg.dv, Leg.dvc, seqI_len, seqH_len]
theorem heldLeg_gives (l : Leg) (k : Int) (h : Hp) (h0 : 0 ≤ k) (h1 : markE l k ≤ 4000000000000000000) : Gives Try.prog 51 [(markL l k).d, .int .i64 k] h (.int .i64 (markE l k)) := by
  simp only [markE] at h1
  refine meets_of [] mixed Try.func51 rfl (by kernel_rfl) (by kernel_rfl) (by rw [Try.ntmps51]; simp only [List.length_cons, List.length_nil]; omega) (fun hf => ?_)
  rw [Try.results51]
  clear hf
  try simp -implicitDefEqProofs only [markL, markE, push_cast, Nat.reduceEqDiff, Nat.reduceBEq, Nat.reduceBNe, Nat.reduceAdd, Nat.reduceMul, Nat.reduceLT, Nat.reduceLeDiff, Nat.reduceSub, reduceCtorEq, Int.reduceToNat, ↓reduceIte]
  repeat'
    (first
     | (refine uYes ?_; first | exact List.mem_cons_self | (simp only [List.mem_cons, List.not_mem_nil, or_false, true_or, or_true]; done))
     | (refine uNo (by kernel_rfl))
     | (refine flatMk ?_; kernel_rfl)
     | (refine And.intro ?_ ?_)
     | (intro hx)
     | ((first
         | (refine callGF ?_)
         | (refine callQGF ?_)
         | (refine skipG ?_)
         | (refine callS (heldIntS_gives _ _ _ h0 (by omega)) ?_)
         | (refine callQ (heldIntS_gives _ _ _ h0 (by omega)) ?_)
         | (refine callG (fun hc => (heldIntS_gives _ _ _ h0 (by omega))) ?_)
         | (refine callQG (fun hc => (heldIntS_gives _ _ _ h0 (by omega))) ?_)
         | (refine callS (heldIntS_gives _ _ _ (by omega) (by omega)) ?_)
         | (refine callQ (heldIntS_gives _ _ _ (by omega) (by omega)) ?_)
         | (refine callG (fun hc => (heldIntS_gives _ _ _ (by omega) (by omega))) ?_)
         | (refine callQG (fun hc => (heldIntS_gives _ _ _ (by omega) (by omega))) ?_)
         | (refine callS (heldHoldS_gives _ _ _ (by omega) (by omega)) ?_)
         | (refine callQ (heldHoldS_gives _ _ _ (by omega) (by omega)) ?_)
         | (refine callG (fun hc => (heldHoldS_gives _ _ _ (by omega) (by omega))) ?_)
         | (refine callQG (fun hc => (heldHoldS_gives _ _ _ (by omega) (by omega))) ?_)); simp -implicitDefEqProofs only [markL, markE, push_cast, Nat.reduceEqDiff, Nat.reduceBEq, Nat.reduceBNe, Nat.reduceAdd, Nat.reduceMul, Nat.reduceLT, Nat.reduceLeDiff, Nat.reduceSub, reduceCtorEq, Int.reduceToNat, ↓reduceIte]))
  all_goals first
    | omega
    | rfl
    | trace_state
theorem LegAt.mark {h : Hp} {q : Nat} {l : Leg} (H : LegAt h q l) (k : Int) : LegAt (markH l q k h) q (markL l k) := by
  have hl := H.lt
  have hh := seqH_flat (k + l.limits.length + l.sold.length + l.bids.length) l.holds.length
  refine ⟨?_, ?_, ?_, ?_, by simp [markH]; exact hl⟩
  · rw [markH, ob_set_ne (by omega), ob_set_ne (by omega), ob_set_ne (by omega), ob_set_eq (by omega)]; rfl
  · rw [markH, ob_set_ne (by omega), ob_set_ne (by omega), ob_set_eq (by simp; omega)]; rfl
  · rw [markH, ob_set_ne (by omega), ob_set_eq (by simp; omega)]; rfl
  · rw [markH, ob_set_eq (by simp; omega), hh]; rfl
/-- the marks leave a leg in other rows alone -/
theorem LegAt.other {h : Hp} {q r : Nat} {l l' : Leg} (H : LegAt h r l') (k : Int) (hq : q + 3 < r ∨ r + 3 < q) : LegAt (markH l q k h) r l' := by
  refine ⟨?_, ?_, ?_, ?_, by simp [markH]; exact H.lt⟩
  · rw [markH, ob_set_ne (by omega), ob_set_ne (by omega), ob_set_ne (by omega), ob_set_ne (by omega)]; exact H.limits
  · rw [markH, ob_set_ne (by omega), ob_set_ne (by omega), ob_set_ne (by omega), ob_set_ne (by omega)]; exact H.sold
  · rw [markH, ob_set_ne (by omega), ob_set_ne (by omega), ob_set_ne (by omega), ob_set_ne (by omega)]; exact H.bids
  · rw [markH, ob_set_ne (by omega), ob_set_ne (by omega), ob_set_ne (by omega), ob_set_ne (by omega)]; exact H.holds
end Go.Proofs.Ytmehbbepppjikaa
