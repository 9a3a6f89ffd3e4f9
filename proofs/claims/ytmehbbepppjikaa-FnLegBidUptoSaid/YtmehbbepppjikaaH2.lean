/- Contracts of functions of the program (H2). -/
import Derived.Test.YtmehbbepppjikaaH1
import Derived.Test.YtmehbbepppjikaaP1

namespace Go.Proofs.Ytmehbbepppjikaa
open Go.Av
set_option maxRecDepth 10000
set_option maxHeartbeats 1000000
set_option linter.unusedSimpArgs false
set_option linter.unusedVariables false

def Leg.fc (l : Leg) : List D := [.str l.name, .str l.src, .str l.dst, .int .i64 l.dep, .int .i64 l.arr, .int .i64 l.cap, .slice (l.limits.map (.int .i64)) .full, .slice (l.sold.map (.int .i64)) .full, .slice (l.bids.map (.int .i64)) .full, .slice (l.holds.map Hold.d) .full]
def Leg.fd (l : Leg) : D := .agg l.fc
theorem Leg.fd_wk (l : Leg) : Wk l.fd l.d := by
  refine .agg _ _ rfl fun k h1 h2 => ?_
  simp only [Leg.fc, List.length_cons, List.length_nil] at h1
  match k, h1 with
  | 0, _ => exact .refl _
  | 1, _ => exact .refl _
  | 2, _ => exact .refl _
  | 3, _ => exact .refl _
  | 4, _ => exact .refl _
  | 5, _ => exact .refl _
  | 6, _ => exact .tok _ _
  | 7, _ => exact .tok _ _
  | 8, _ => exact .tok _ _
  | 9, _ => exact .tok _ _
theorem copyF_gives (l : Leg) (h : Hp) : Gives Try.prog 105 [l.d] h l.fd := by
  refine meets_of [] mixed Try.func105 rfl (by kernel_rfl) (by kernel_rfl) (by rw [Try.ntmps105]; simp only [List.length_cons, List.length_nil]; omega) (fun hf => ?_)
  rw [Try.results105]
  clear hf
  try simp -implicitDefEqProofs only [Leg.fd, Leg.fc, push_cast, Nat.reduceEqDiff, Nat.reduceBEq, Nat.reduceBNe, Nat.reduceAdd, Nat.reduceMul, Nat.reduceLT, Nat.reduceLeDiff, Nat.reduceSub, reduceCtorEq, Int.reduceToNat, ↓reduceIte]
  repeat'
    (first
     | (refine uYes ?_; first | exact List.mem_cons_self | (simp only [List.mem_cons, List.not_mem_nil, or_false, true_or, or_true]; done))
     | (refine uNo (by kernel_rfl))
     | (refine flatMk ?_; kernel_rfl)
     | (refine And.intro ?_ ?_)
     | (intro hx)
     | ((first
         | (refine inX_mk [] (by kernel_rfl) (by simp) ?_)
         | (refine callGF ?_)
         | (refine callQGF ?_)
         | (refine skipG ?_)
         | (refine callS (iclone_gives _ _) ?_)
         | (refine callQ (iclone_gives _ _) ?_)
         | (refine callG (fun hc => (iclone_gives _ _)) ?_)
         | (refine callQG (fun hc => (iclone_gives _ _)) ?_)
         | (refine callXG (fun _ => (iclone_gives _ _)) ?_)
         | (refine callS (hclone_gives _ _) ?_)
         | (refine callQ (hclone_gives _ _) ?_)
         | (refine callG (fun hc => (hclone_gives _ _)) ?_)
         | (refine callQG (fun hc => (hclone_gives _ _)) ?_)
         | (refine callXG (fun _ => (hclone_gives _ _)) ?_)); simp -implicitDefEqProofs only [Leg.fd, Leg.fc, push_cast, Nat.reduceEqDiff, Nat.reduceBEq, Nat.reduceBNe, Nat.reduceAdd, Nat.reduceMul, Nat.reduceLT, Nat.reduceLeDiff, Nat.reduceSub, reduceCtorEq, Int.reduceToNat, ↓reduceIte]))
  all_goals first
    | omega
    | trace_state
theorem can_gives (l : Leg) (o : Hold) (s : Int) (h : Hp) (hp : LegP l) : Gives Try.prog 132 [l.d, o.d, .int .i64 s] h (.bool (canB l o s)) := by
  have hlb := hp.mk_leg
  have hc := hp.cap
  have hll := hp.holds
  have hidx : decide (0 ≤ heldIdx l o.txn) = thereB l o.txn := by
    cases ht : thereB l o.txn with
    | true => exact decide_eq_true (by rw [hp.there_t ht]; omega)
    | false => exact decide_eq_false (by have := hp.there_f ht; omega)
  cases hf : fitB l o with
  | false =>
    rw [show canB l o s = false by rw [canB, hf]; rfl]
    cases ht : thereB l o.txn with
    | true =>
      refine meets_of [] mixed Try.func132 rfl (by kernel_rfl) (by kernel_rfl) (by rw [Try.ntmps132]; simp only [List.length_cons, List.length_nil]; omega) (fun hf => ?_)
      rw [Try.results132]
      clear hf
      try simp -implicitDefEqProofs only [hidx, ht, push_cast, Nat.reduceEqDiff, Nat.reduceBEq, Nat.reduceBNe, Nat.reduceAdd, Nat.reduceMul, Nat.reduceLT, Nat.reduceLeDiff, Nat.reduceSub, reduceCtorEq, Int.reduceToNat, ↓reduceIte]
      repeat'
        (first
         | (refine uYes ?_; first | exact List.mem_cons_self | (simp only [List.mem_cons, List.not_mem_nil, or_false, true_or, or_true]; done))
         | (refine uNo (by kernel_rfl))
         | (refine flatMk ?_; kernel_rfl)
         | (refine And.intro ?_ ?_)
         | (intro hx)
         | ((first
             | (refine callGF ?_)
             | (refine callQGF ?_)
             | (refine skipG ?_)
             | (refine callS (held_gives l o.txn _) ?_)
             | (refine callQ (held_gives l o.txn _) ?_)
             | (refine callG (fun hc => (held_gives l o.txn _)) ?_)
             | (refine callQG (fun hc => (held_gives l o.txn _)) ?_)
             | (refine callS (may_gives l o _) ?_)
             | (refine callQ (may_gives l o _) ?_)
             | (refine callG (fun hc => (may_gives l o _)) ?_)
             | (refine callQG (fun hc => (may_gives l o _)) ?_)); simp -implicitDefEqProofs only [hidx, ht, push_cast, Nat.reduceEqDiff, Nat.reduceBEq, Nat.reduceBNe, Nat.reduceAdd, Nat.reduceMul, Nat.reduceLT, Nat.reduceLeDiff, Nat.reduceSub, reduceCtorEq, Int.reduceToNat, ↓reduceIte]))
      all_goals first
        | omega
        | trace_state
    | false =>
      by_cases h6 : (l.holds.length : Int) = 6
      · have h6' : decide ((l.holds.length : Int) = 6) = true := decide_eq_true h6
        refine meets_of [] mixed Try.func132 rfl (by kernel_rfl) (by kernel_rfl) (by rw [Try.ntmps132]; simp only [List.length_cons, List.length_nil]; omega) (fun hf => ?_)
        rw [Try.results132]
        clear hf
        try simp -implicitDefEqProofs only [hidx, ht, h6', push_cast, Nat.reduceEqDiff, Nat.reduceBEq, Nat.reduceBNe, Nat.reduceAdd, Nat.reduceMul, Nat.reduceLT, Nat.reduceLeDiff, Nat.reduceSub, reduceCtorEq, Int.reduceToNat, ↓reduceIte]
        repeat'
          (first
           | (refine uYes ?_; first | exact List.mem_cons_self | (simp only [List.mem_cons, List.not_mem_nil, or_false, true_or, or_true]; done))
           | (refine uNo (by kernel_rfl))
           | (refine flatMk ?_; kernel_rfl)
           | (refine And.intro ?_ ?_)
           | (intro hx)
           | ((first
               | (refine callGF ?_)
               | (refine callQGF ?_)
               | (refine skipG ?_)
               | (refine callS (held_gives l o.txn _) ?_)
               | (refine callQ (held_gives l o.txn _) ?_)
               | (refine callG (fun hc => (held_gives l o.txn _)) ?_)
               | (refine callQG (fun hc => (held_gives l o.txn _)) ?_)
               | (refine callS (may_gives l o _) ?_)
               | (refine callQ (may_gives l o _) ?_)
               | (refine callG (fun hc => (may_gives l o _)) ?_)
               | (refine callQG (fun hc => (may_gives l o _)) ?_)); simp -implicitDefEqProofs only [hidx, ht, h6', push_cast, Nat.reduceEqDiff, Nat.reduceBEq, Nat.reduceBNe, Nat.reduceAdd, Nat.reduceMul, Nat.reduceLT, Nat.reduceLeDiff, Nat.reduceSub, reduceCtorEq, Int.reduceToNat, ↓reduceIte]))
        all_goals first
          | omega
          | trace_state
      · have h6' : decide ((l.holds.length : Int) = 6) = false := decide_eq_false h6
        have hm : mayB l o = false := by
          cases e : mayB l o with
          | false => rfl
          | true =>
            rw [fitB, ht, e, decide_eq_true (show l.holds.length < 6 by omega)] at hf
            cases hf
        refine meets_of [] mixed Try.func132 rfl (by kernel_rfl) (by kernel_rfl) (by rw [Try.ntmps132]; simp only [List.length_cons, List.length_nil]; omega) (fun hf => ?_)
        rw [Try.results132]
        clear hf
        try simp -implicitDefEqProofs only [hidx, ht, h6', hm, push_cast, Nat.reduceEqDiff, Nat.reduceBEq, Nat.reduceBNe, Nat.reduceAdd, Nat.reduceMul, Nat.reduceLT, Nat.reduceLeDiff, Nat.reduceSub, reduceCtorEq, Int.reduceToNat, ↓reduceIte]
        repeat'
          (first
           | (refine uYes ?_; first | exact List.mem_cons_self | (simp only [List.mem_cons, List.not_mem_nil, or_false, true_or, or_true]; done))
           | (refine uNo (by kernel_rfl))
           | (refine flatMk ?_; kernel_rfl)
           | (refine And.intro ?_ ?_)
           | (intro hx)
           | ((first
               | (refine callGF ?_)
               | (refine callQGF ?_)
               | (refine skipG ?_)
               | (refine callS (held_gives l o.txn _) ?_)
               | (refine callQ (held_gives l o.txn _) ?_)
               | (refine callG (fun hc => (held_gives l o.txn _)) ?_)
               | (refine callQG (fun hc => (held_gives l o.txn _)) ?_)
               | (refine callS (may_gives l o _) ?_)
               | (refine callQ (may_gives l o _) ?_)
               | (refine callG (fun hc => (may_gives l o _)) ?_)
               | (refine callQG (fun hc => (may_gives l o _)) ?_)); simp -implicitDefEqProofs only [hidx, ht, h6', hm, push_cast, Nat.reduceEqDiff, Nat.reduceBEq, Nat.reduceBNe, Nat.reduceAdd, Nat.reduceMul, Nat.reduceLT, Nat.reduceLeDiff, Nat.reduceSub, reduceCtorEq, Int.reduceToNat, ↓reduceIte]))
        all_goals first
          | omega
          | trace_state
  | true =>
    obtain ⟨t1, t2, t3, t4, t5, t6, t7⟩ := (fitB_iff hp).1 hf
    have t4' := inB_iff.1 t4
    have hmay : mayB l o = true := by
      rw [fitB, Bool.and_eq_true] at hf; exact hf.2
    have hs := hp.sold
    have hb := hp.backI o.cls
    have hsx : 0 ≤ l.sold.getD o.cls.toNat 0 ∧ l.sold.getD o.cls.toNat 0 ≤ l.cap := (all_getD (d := 0) (p := fun x => 0 ≤ x ∧ x ≤ l.cap)).2 hp.sol o.cls.toNat (by omega)
    have hcan : canB l o s = (if 0 < o.seats then decide (o.seats ≤ roomW l 9 (o.cls.toNat + 1)) && decide (bidV l ≤ s) else decide (-o.seats ≤ l.sold.getD o.cls.toNat 0 - backV l o.cls)) := by rw [canB, hf]; rfl
    have h6 : decide ((l.holds.length : Int) = 6) = false := decide_eq_false (by omega)
    have hw1 : IntKind.i64.wrap (0 - o.seats) = -o.seats := by rw [wrap_id (by omega) (by omega)]; omega
    have hw1' : IntKind.i64.wrap (-o.seats) = -o.seats := wrap_id (by omega) (by omega)
    have hw2 : IntKind.i64.wrap (l.sold.getD o.cls.toNat 0 - backV l o.cls) = l.sold.getD o.cls.toNat 0 - backV l o.cls := wrap_id (by omega) (by omega)
    rw [hcan]
    by_cases hp0 : 0 < o.seats
    · simp only [hp0, if_true]
      refine meets_of [] mixed Try.func132 rfl (by kernel_rfl) (by kernel_rfl) (by rw [Try.ntmps132]; simp only [List.length_cons, List.length_nil]; omega) (fun hf => ?_)
      rw [Try.results132]
      clear hf
      try simp -implicitDefEqProofs only [hidx, t1, hmay, h6, hp0, push_cast, Nat.reduceEqDiff, Nat.reduceBEq, Nat.reduceBNe, Nat.reduceAdd, Nat.reduceMul, Nat.reduceLT, Nat.reduceLeDiff, Nat.reduceSub, reduceCtorEq, Int.reduceToNat, ↓reduceIte]
      repeat'
        (first
         | (refine uYes ?_; first | exact List.mem_cons_self | (simp only [List.mem_cons, List.not_mem_nil, or_false, true_or, or_true]; done))
         | (refine uNo (by kernel_rfl))
         | (refine flatMk ?_; kernel_rfl)
         | (refine And.intro ?_ ?_)
         | (intro hx)
         | ((first
             | (refine callGF ?_)
             | (refine callQGF ?_)
             | (refine skipG ?_)
             | (refine callS (held_gives l o.txn _) ?_)
             | (refine callQ (held_gives l o.txn _) ?_)
             | (refine callG (fun hc => (held_gives l o.txn _)) ?_)
             | (refine callQG (fun hc => (held_gives l o.txn _)) ?_)
             | (refine callS (may_gives l o _) ?_)
             | (refine callQ (may_gives l o _) ?_)
             | (refine callG (fun hc => (may_gives l o _)) ?_)
             | (refine callQG (fun hc => (may_gives l o _)) ?_)
             | (refine callS (room_gives l o.cls _ t4'.1 t4'.2 hp.limits hp.sold) ?_)
             | (refine callQ (room_gives l o.cls _ t4'.1 t4'.2 hp.limits hp.sold) ?_)
             | (refine callG (fun hc => (room_gives l o.cls _ t4'.1 t4'.2 hp.limits hp.sold)) ?_)
             | (refine callQG (fun hc => (room_gives l o.cls _ t4'.1 t4'.2 hp.limits hp.sold)) ?_)
             | (refine callS (bid_gives l _ hlb) ?_)
             | (refine callQ (bid_gives l _ hlb) ?_)
             | (refine callG (fun hc => (bid_gives l _ hlb)) ?_)
             | (refine callQG (fun hc => (bid_gives l _ hlb)) ?_)
             | (refine callS (back_gives l o.cls _) ?_)
             | (refine callQ (back_gives l o.cls _) ?_)
             | (refine callG (fun hc => (back_gives l o.cls _)) ?_)
             | (refine callQG (fun hc => (back_gives l o.cls _)) ?_)); simp -implicitDefEqProofs only [hidx, t1, hmay, h6, hp0, push_cast, Nat.reduceEqDiff, Nat.reduceBEq, Nat.reduceBNe, Nat.reduceAdd, Nat.reduceMul, Nat.reduceLT, Nat.reduceLeDiff, Nat.reduceSub, reduceCtorEq, Int.reduceToNat, ↓reduceIte]))
      all_goals first
        | omega
        | rfl
        | trace_state
    · have hp0' : decide (0 < o.seats) = false := decide_eq_false hp0
      simp only [hp0, if_false]
      refine meets_of [] mixed Try.func132 rfl (by kernel_rfl) (by kernel_rfl) (by rw [Try.ntmps132]; simp only [List.length_cons, List.length_nil]; omega) (fun hf => ?_)
      rw [Try.results132]
      clear hf
      try simp -implicitDefEqProofs only [hidx, t1, hmay, h6, hp0', hw1, hw1', hw2, push_cast, Nat.reduceEqDiff, Nat.reduceBEq, Nat.reduceBNe, Nat.reduceAdd, Nat.reduceMul, Nat.reduceLT, Nat.reduceLeDiff, Nat.reduceSub, reduceCtorEq, Int.reduceToNat, ↓reduceIte]
      repeat'
        (first
         | (refine uYes ?_; first | exact List.mem_cons_self | (simp only [List.mem_cons, List.not_mem_nil, or_false, true_or, or_true]; done))
         | (refine uNo (by kernel_rfl))
         | (refine flatMk ?_; kernel_rfl)
         | (refine And.intro ?_ ?_)
         | (intro hx)
         | ((first
             | (refine callGF ?_)
             | (refine callQGF ?_)
             | (refine skipG ?_)
             | (refine callS (held_gives l o.txn _) ?_)
             | (refine callQ (held_gives l o.txn _) ?_)
             | (refine callG (fun hc => (held_gives l o.txn _)) ?_)
             | (refine callQG (fun hc => (held_gives l o.txn _)) ?_)
             | (refine callS (may_gives l o _) ?_)
             | (refine callQ (may_gives l o _) ?_)
             | (refine callG (fun hc => (may_gives l o _)) ?_)
             | (refine callQG (fun hc => (may_gives l o _)) ?_)
             | (refine callS (bid_gives l _ hlb) ?_)
             | (refine callQ (bid_gives l _ hlb) ?_)
             | (refine callG (fun hc => (bid_gives l _ hlb)) ?_)
             | (refine callQG (fun hc => (bid_gives l _ hlb)) ?_)
             | (refine callS (back_gives l o.cls _) ?_)
             | (refine callQ (back_gives l o.cls _) ?_)
             | (refine callG (fun hc => (back_gives l o.cls _)) ?_)
             | (refine callQG (fun hc => (back_gives l o.cls _)) ?_)); simp -implicitDefEqProofs only [hidx, t1, hmay, h6, hp0', hw1, hw1', hw2, push_cast, Nat.reduceEqDiff, Nat.reduceBEq, Nat.reduceBNe, Nat.reduceAdd, Nat.reduceMul, Nat.reduceLT, Nat.reduceLeDiff, Nat.reduceSub, reduceCtorEq, Int.reduceToNat, ↓reduceIte]))
      all_goals first
        | omega
        | rfl
        | trace_state
end Go.Proofs.Ytmehbbepppjikaa
