/- Contracts of functions of the program (D2). -/
import Derived.Test.YtmehbbepppjikaaD1

namespace Go.Proofs.Ytmehbbepppjikaa
open Go.Av
set_option maxRecDepth 10000
set_option maxHeartbeats 1000000
set_option linter.unusedSimpArgs false
set_option linter.unusedVariables false

def fitB (l : Leg) (o : Hold) : Bool := !thereB l o.txn && decide (l.holds.length < 6) && mayB l o
def canB (l : Leg) (o : Hold) (s : Int) : Bool := fitB l o && (if 0 < o.seats then decide (o.seats ≤ roomW l 9 (o.cls.toNat + 1)) && decide (bidV l ≤ s) else decide (-o.seats ≤ l.sold.getD o.cls.toNat 0 - backV l o.cls))
def holdL (l : Leg) (o : Hold) : Leg := { l with holds := l.holds.take (placeN l o.txn) ++ o :: l.holds.drop (placeN l o.txn) }
theorem fitB_iff {l : Leg} {o : Hold} (h : LegP l) : fitB l o = true ↔ thereB l o.txn = false ∧ l.holds.length < 6 ∧ inB o.txn 1 99 = true ∧ inB o.cls 0 2 = true ∧ -l.cap ≤ o.seats ∧ o.seats ≤ l.cap ∧ o.seats ≠ 0 := by
  have hc := h.cap
  simp only [fitB, mayB, Bool.and_eq_true, Bool.not_eq_true', decide_eq_true_eq, decide_eq_false_iff_not]
  rw [wrap_id (by omega) (by omega), Int.zero_sub, inB_iff (n := o.seats)]
  constructor
  · rintro ⟨⟨a, b⟩, ⟨⟨c, d⟩, e⟩, f⟩
    exact ⟨a, b, c, d, e.1, e.2, f⟩
  · rintro ⟨a, b, c, d, e, f, g⟩
    exact ⟨⟨a, b⟩, ⟨⟨c, d⟩, e, f⟩, g⟩
theorem l6Hold_gives (l : Leg) (o : Hold) (s : Int) (h : Hp) (hp : LegP l) : Gives Try.prog 111 [l.d, o.d, .int .i64 s] h (.tup [(if canB l o s then holdL l o else l).d, .bool (canB l o s)]) := by
  have hc := hp.cap
  have hlb := hp.mk_leg
  cases hf : fitB l o with
  | false =>
    rw [show canB l o s = false by rw [canB, hf]; rfl]
    show Gives _ _ _ _ (.tup [l.d, .bool false])
    have hn : ¬ (thereB l o.txn = false ∧ l.holds.length < 6 ∧ inB o.txn 1 99 = true ∧ inB o.cls 0 2 = true ∧ -l.cap ≤ o.seats ∧ o.seats ≤ l.cap ∧ o.seats ≠ 0) := fun e => by rw [(fitB_iff hp).2 e] at hf; cases hf
    refine meets_of [] mixed Try.func111 rfl (by kernel_rfl) (by kernel_rfl) (by rw [Try.ntmps111]; simp only [List.length_cons, List.length_nil]; omega) (fun hf => ?_)
    rw [Try.results111]
    have hw : IntKind.i64.wrap (0 - l.cap) = -l.cap := by rw [wrap_id (by omega) (by omega)]; omega
    have hw' : IntKind.i64.wrap (-l.cap) = -l.cap := wrap_id (by omega) (by omega)
    try simp -implicitDefEqProofs only [hw, hw', push_cast, Nat.reduceEqDiff, Nat.reduceBEq, Nat.reduceBNe, Nat.reduceAdd, Nat.reduceMul, Nat.reduceLT, Nat.reduceLeDiff, Nat.reduceSub, reduceCtorEq, Int.reduceToNat, ↓reduceIte]
    repeat'
      (first
       | (refine uYes ?_; first | exact List.mem_cons_self | (simp only [List.mem_cons, List.not_mem_nil, or_false, true_or, or_true]; done))
       | (refine uNo (by kernel_rfl))
       | (refine flatMk ?_; kernel_rfl)
       | (refine And.intro ?_ ?_)
       | (intro hx)
       | ((first
           | (refine callGF ?_)
           | (refine callQGF ?_)
           | (refine skipG ?_)
           | (refine callS (l6Held_gives l o.txn _) ?_)
           | (refine callQ (l6Held_gives l o.txn _) ?_)
           | (refine callG (fun hc => (l6Held_gives l o.txn _)) ?_)
           | (refine callQG (fun hc => (l6Held_gives l o.txn _)) ?_)
           | (refine callS (l1In_gives _ _ _ _) ?_)
           | (refine callQ (l1In_gives _ _ _ _) ?_)
           | (refine callG (fun hc => (l1In_gives _ _ _ _)) ?_)
           | (refine callQG (fun hc => (l1In_gives _ _ _ _)) ?_)); simp -implicitDefEqProofs only [hw, hw', push_cast, Nat.reduceEqDiff, Nat.reduceBEq, Nat.reduceBNe, Nat.reduceAdd, Nat.reduceMul, Nat.reduceLT, Nat.reduceLeDiff, Nat.reduceSub, reduceCtorEq, Int.reduceToNat, ↓reduceIte]))
    all_goals first
      | omega
      | rfl
      | exact absurd ⟨hx.1.1.1.1.1, by omega, hx.1.1.1.2, hx.1.1.2, (inB_iff.1 hx.2).1, (inB_iff.1 hx.2).2, hx.1.2⟩ hn
      | trace_state
  | true =>
    obtain ⟨t1, t2, t3, t4, t5, t6, t7⟩ := (fitB_iff hp).1 hf
    have t4' := inB_iff.1 t4
    have t8 : inB o.seats (-l.cap) l.cap = true := inB_iff.2 ⟨t5, t6⟩
    have t9 : decide (6 ≤ (l.holds.length : Int)) = false := decide_eq_false (by omega)
    have t10 : decide (o.seats = 0) = false := decide_eq_false t7
    have e := (hp.roomW (k := o.cls.toNat) (by omega)).1
    have hs := hp.sold
    have hb := hp.backI o.cls
    have hsc := hp.sol
    have hsx : 0 ≤ l.sold.getD o.cls.toNat 0 ∧ l.sold.getD o.cls.toNat 0 ≤ l.cap := (all_getD (d := 0) (p := fun x => 0 ≤ x ∧ x ≤ l.cap)).2 hsc o.cls.toNat (by omega)
    have hcan : canB l o s = (if 0 < o.seats then decide (o.seats ≤ roomW l 9 (o.cls.toNat + 1)) && decide (bidV l ≤ s) else decide (-o.seats ≤ l.sold.getD o.cls.toNat 0 - backV l o.cls)) := by rw [canB, hf]; rfl
    have hw : IntKind.i64.wrap (0 - l.cap) = -l.cap := by rw [wrap_id (by omega) (by omega)]; omega
    have hw' : IntKind.i64.wrap (-l.cap) = -l.cap := wrap_id (by omega) (by omega)
    have hw1 : IntKind.i64.wrap (0 - o.seats) = -o.seats := by rw [wrap_id (by omega) (by omega)]; omega
    have hw1' : IntKind.i64.wrap (-o.seats) = -o.seats := wrap_id (by omega) (by omega)
    have hw2 : IntKind.i64.wrap (l.sold.getD o.cls.toNat 0 - backV l o.cls) = l.sold.getD o.cls.toNat 0 - backV l o.cls := wrap_id (by omega) (by omega)
    cases hcb : canB l o s with
    | false =>
      rw [hcan] at hcb
      show Gives _ _ _ _ (.tup [l.d, .bool false])
      refine meets_of [] mixed Try.func111 rfl (by kernel_rfl) (by kernel_rfl) (by rw [Try.ntmps111]; simp only [List.length_cons, List.length_nil]; omega) (fun hf => ?_)
      rw [Try.results111]
      try simp -implicitDefEqProofs only [hw, hw', hw1, hw1', hw2, t1, t3, t4, t8, t9, t10, e, push_cast, Nat.reduceEqDiff, Nat.reduceBEq, Nat.reduceBNe, Nat.reduceAdd, Nat.reduceMul, Nat.reduceLT, Nat.reduceLeDiff, Nat.reduceSub, reduceCtorEq, Int.reduceToNat, ↓reduceIte]
      repeat'
        (first
         | (refine uYes ?_; first | exact List.mem_cons_self | (simp only [List.mem_cons, List.not_mem_nil, or_false, true_or, or_true]; done))
         | (refine uNo (by kernel_rfl))
         | (refine flatMk ?_; kernel_rfl)
         | (refine And.intro ?_ ?_)
         | (intro hx)
         | ((first
             | (refine callGF ?_)
             | (refine callQGF ?_)
             | (refine skipG ?_)
             | (refine callS (l6Held_gives l o.txn _) ?_)
             | (refine callQ (l6Held_gives l o.txn _) ?_)
             | (refine callG (fun hc => (l6Held_gives l o.txn _)) ?_)
             | (refine callQG (fun hc => (l6Held_gives l o.txn _)) ?_)
             | (refine callS (l1In_gives _ _ _ _) ?_)
             | (refine callQ (l1In_gives _ _ _ _) ?_)
             | (refine callG (fun hc => (l1In_gives _ _ _ _)) ?_)
             | (refine callQG (fun hc => (l1In_gives _ _ _ _)) ?_)
             | (refine callS (specRoom_gives l o.cls _ t4'.1 t4'.2 hp.limits hp.sold) ?_)
             | (refine callQ (specRoom_gives l o.cls _ t4'.1 t4'.2 hp.limits hp.sold) ?_)
             | (refine callG (fun hc => (specRoom_gives l o.cls _ t4'.1 t4'.2 hp.limits hp.sold)) ?_)
             | (refine callQG (fun hc => (specRoom_gives l o.cls _ t4'.1 t4'.2 hp.limits hp.sold)) ?_)
             | (refine callS (specBid_gives l _ hlb) ?_)
             | (refine callQ (specBid_gives l _ hlb) ?_)
             | (refine callG (fun hc => (specBid_gives l _ hlb)) ?_)
             | (refine callQG (fun hc => (specBid_gives l _ hlb)) ?_)
             | (refine callS (specBack_gives l o.cls _) ?_)
             | (refine callQ (specBack_gives l o.cls _) ?_)
             | (refine callG (fun hc => (specBack_gives l o.cls _)) ?_)
             | (refine callQG (fun hc => (specBack_gives l o.cls _)) ?_)); simp -implicitDefEqProofs only [hw, hw', hw1, hw1', hw2, t1, t3, t4, t8, t9, t10, e, push_cast, Nat.reduceEqDiff, Nat.reduceBEq, Nat.reduceBNe, Nat.reduceAdd, Nat.reduceMul, Nat.reduceLT, Nat.reduceLeDiff, Nat.reduceSub, reduceCtorEq, Int.reduceToNat, ↓reduceIte]))
      all_goals first
        | omega
        | rfl
        | (exfalso
           by_cases h0 : 0 < o.seats
           · rw [if_pos h0, e, decide_eq_true (hx.1 h0).1, decide_eq_true (hx.1 h0).2] at hcb
             cases hcb
           · rw [if_neg h0, decide_eq_true (hx.2 (by omega))] at hcb
             cases hcb)
        | trace_state
    | true =>
      have hcc : (0 < o.seats → o.seats ≤ roomW l l.cap (o.cls.toNat + 1) ∧ bidV l ≤ s) ∧ (o.seats < 0 → -o.seats ≤ l.sold.getD o.cls.toNat 0 - backV l o.cls) := by
        rw [hcan] at hcb
        refine ⟨fun h0 => ?_, fun h0 => ?_⟩
        · rw [if_pos h0, e, Bool.and_eq_true, decide_eq_true_eq, decide_eq_true_eq] at hcb
          exact hcb
        · rw [if_neg (by omega), decide_eq_true_eq] at hcb
          exact hcb
      have hpl : placeN l o.txn ≤ l.holds.length := whileN_le _ _
      have hmin : min (placeN l o.txn) l.holds.length = placeN l o.txn := by omega
      show Gives _ _ _ _ (.tup [(holdL l o).d, .bool true])
      refine meets_of [] mixed Try.func111 rfl (by kernel_rfl) (by kernel_rfl) (by rw [Try.ntmps111]; simp only [List.length_cons, List.length_nil]; omega) (fun hf => ?_)
      rw [Try.results111]
      try simp -implicitDefEqProofs only [hw, hw', hw1, hw1', hw2, t1, t3, t4, t8, t9, t10, e, lenMax, hmin, push_cast, Nat.reduceEqDiff, Nat.reduceBEq, Nat.reduceBNe, Nat.reduceAdd, Nat.reduceMul, Nat.reduceLT, Nat.reduceLeDiff, Nat.reduceSub, reduceCtorEq, Int.reduceToNat, ↓reduceIte]
      repeat'
        (first
         | (refine uYes ?_; first | exact List.mem_cons_self | (simp only [List.mem_cons, List.not_mem_nil, or_false, true_or, or_true]; done))
         | (refine uNo (by kernel_rfl))
         | (refine flatMk ?_; kernel_rfl)
         | (refine And.intro ?_ ?_)
         | (intro hx)
         | ((first
             | (refine inX_mk [] (by kernel_rfl) (by simp) ?_)
             | (refine callGF ?_)
             | (refine callQGF ?_)
             | (refine skipG ?_)
             | (refine callS (l6Held_gives l o.txn _) ?_)
             | (refine callQ (l6Held_gives l o.txn _) ?_)
             | (refine callG (fun hc => (l6Held_gives l o.txn _)) ?_)
             | (refine callQG (fun hc => (l6Held_gives l o.txn _)) ?_)
             | (refine callXG (fun _ => (l6Held_gives l o.txn _)) ?_)
             | (refine callS (l1In_gives _ _ _ _) ?_)
             | (refine callQ (l1In_gives _ _ _ _) ?_)
             | (refine callG (fun hc => (l1In_gives _ _ _ _)) ?_)
             | (refine callQG (fun hc => (l1In_gives _ _ _ _)) ?_)
             | (refine callXG (fun _ => (l1In_gives _ _ _ _)) ?_)
             | (refine callS (specRoom_gives l o.cls _ t4'.1 t4'.2 hp.limits hp.sold) ?_)
             | (refine callQ (specRoom_gives l o.cls _ t4'.1 t4'.2 hp.limits hp.sold) ?_)
             | (refine callG (fun hc => (specRoom_gives l o.cls _ t4'.1 t4'.2 hp.limits hp.sold)) ?_)
             | (refine callQG (fun hc => (specRoom_gives l o.cls _ t4'.1 t4'.2 hp.limits hp.sold)) ?_)
             | (refine callXG (fun _ => (specRoom_gives l o.cls _ t4'.1 t4'.2 hp.limits hp.sold)) ?_)
             | (refine callS (specBid_gives l _ hlb) ?_)
             | (refine callQ (specBid_gives l _ hlb) ?_)
             | (refine callG (fun hc => (specBid_gives l _ hlb)) ?_)
             | (refine callQG (fun hc => (specBid_gives l _ hlb)) ?_)
             | (refine callXG (fun _ => (specBid_gives l _ hlb)) ?_)
             | (refine callS (specBack_gives l o.cls _) ?_)
             | (refine callQ (specBack_gives l o.cls _) ?_)
             | (refine callG (fun hc => (specBack_gives l o.cls _)) ?_)
             | (refine callQG (fun hc => (specBack_gives l o.cls _)) ?_)
             | (refine callXG (fun _ => (specBack_gives l o.cls _)) ?_)); simp -implicitDefEqProofs only [hw, hw', hw1, hw1', hw2, t1, t3, t4, t8, t9, t10, e, lenMax, hmin, push_cast, Nat.reduceEqDiff, Nat.reduceBEq, Nat.reduceBNe, Nat.reduceAdd, Nat.reduceMul, Nat.reduceLT, Nat.reduceLeDiff, Nat.reduceSub, reduceCtorEq, Int.reduceToNat, ↓reduceIte]))
      all_goals first
        | omega
        | rfl
        | exact holds_c1 _ _ hx
        | (exfalso; grind)
        | (simp only [holdL, List.map_append, List.map_cons]; rfl)
        | trace_state
end Go.Proofs.Ytmehbbepppjikaa
