/- Contracts of functions of the program (Gm). -/
import Derived.Test.YtmehbbepppjikaaGl
import Derived.Test.YtmehbbepppjikaaGi
import Derived.Test.YtmehbbepppjikaaGj

namespace Go.Proofs.Ytmehbbepppjikaa
open Go.Av
set_option maxRecDepth 10000
set_option maxHeartbeats 1000000
set_option linter.unusedSimpArgs false
set_option linter.unusedVariables false

theorem zeros3 (a b c : D) : ∀ n, zeros [a, b, c] (n + 1) = a :: b :: c :: zeros [a, b, c] n := fun n => rfl
theorem zeros3_len (a b c : D) : ∀ n, (zeros [a, b, c] n).length = n * 3
  | 0 => rfl
  | n + 1 => by rw [zeros3]; simp only [List.length_cons, zeros3_len a b c n]; omega
/-- slices.Insert of one hold into a full slice -/
theorem insert_gives (xs : List Hold) (o : Hold) (k : Nat) (h : Hp) (hk : k ≤ xs.length) (hl : xs.length ≤ 100) : Gives Try.prog 133 [.slice (xs.map Hold.d) .full, .int .i64 k, .slice [o.d] .full] h (.slice ((xs.take k ++ o :: xs.drop k).map Hold.d) .no) := by
  by_cases hkk : k = xs.length
  · refine meets_of [] mixed Try.func133 rfl (by kernel_rfl) (by kernel_rfl) (by rw [Try.ntmps133]; simp only [List.length_cons, List.length_nil]; omega) (fun hf => ?_)
    rw [Try.results133]
    clear hf
    try simp -implicitDefEqProofs only [lenMax, hkk, push_cast, Nat.reduceEqDiff, Nat.reduceBEq, Nat.reduceBNe, Nat.reduceAdd, Nat.reduceMul, Nat.reduceLT, Nat.reduceLeDiff, Nat.reduceSub, reduceCtorEq, Int.reduceToNat, ↓reduceIte]
    repeat'
      (first
       | (refine uYes ?_; first | exact List.mem_cons_self | (simp only [List.mem_cons, List.not_mem_nil, or_false, true_or, or_true]; done))
       | (refine uNo (by kernel_rfl))
       | (refine flatMk ?_; kernel_rfl)
       | (refine And.intro ?_ ?_)
       | (intro hx)
       | ((first
           | (refine callGF ?_)
           | (refine callQGF ?_)
           | (refine skipG ?_)
           | (refine callS (in_gives _ _ _ _) ?_)
           | (refine callQ (in_gives _ _ _ _) ?_)
           | (refine callG (fun hc => (in_gives _ _ _ _)) ?_)
           | (refine callQG (fun hc => (in_gives _ _ _ _)) ?_)); simp -implicitDefEqProofs only [lenMax, hkk, push_cast, Nat.reduceEqDiff, Nat.reduceBEq, Nat.reduceBNe, Nat.reduceAdd, Nat.reduceMul, Nat.reduceLT, Nat.reduceLeDiff, Nat.reduceSub, reduceCtorEq, Int.reduceToNat, ↓reduceIte]))
    all_goals first
      | omega
      | exact holds_cl _ _ _ hx
      | exact holds_c1 _ _ hx
      | (rw [List.drop_length, List.map_append]; rfl)
      | (rw [holds_len, hlen]; exact Nat.le_refl _)
      | (simp only [List.mem_cons, List.not_mem_nil, or_false] at hx; rcases hx with rfl | rfl | rfl <;> trivial)
      | trace_state
  · refine meets_of [40, 9] mixed Try.func133 rfl (by kernel_rfl) (by kernel_rfl) (by rw [Try.ntmps133]; simp only [List.length_cons, List.length_nil]; omega) (fun hf => ?_)
    rw [Try.results133]
    clear hf
    have hw : IntKind.i64.wrap ((xs.length : Int) + 1) = xs.length + 1 := wrap_id (by omega) (by omega)
    have hw1 : IntKind.i64.wrap ((xs.length : Int) + 1 - k) = xs.length + 1 - k := wrap_id (by omega) (by omega)
    have hw2 : IntKind.i64.wrap ((k : Int) + 1) = k + 1 := wrap_id (by omega) (by omega)
    have hmin : min k xs.length = k := by omega
    have htn : ((xs.length : Int) + 1 - k).toNat = xs.length + 1 - k := by omega
    have hm1 : min (min 1 (xs.length + 1 - k) * 3) 3 = 3 := by omega
    have hlk : ((xs.take k).flatMap Hold.cs).length = k * 3 := by rw [holds_len, List.length_take]; omega
    have hmin1 : min 1 (xs.length + 1 - k) = 1 := by omega
    have ht3 : List.take 3 [D.int .i64 o.txn, D.int .i64 o.cls, D.int .i64 o.seats] = [D.int .i64 o.txn, D.int .i64 o.cls, D.int .i64 o.seats] := rfl
    have ht1 : ((k : Int) + 1).toNat = k + 1 := by omega
    have hm2 : min (xs.length - k) (xs.length + 1 - (k + 1)) = xs.length - k := by omega
    have hlb : ((xs.drop k).flatMap Hold.cs).length = (xs.length - k) * 3 := by rw [holds_len, List.length_drop]
    have hA1 : ((xs.take k).flatMap Hold.cs ++ zeros [D.int .i64 0, D.int .i64 0, D.int .i64 0] (xs.length + 1 - k)).take (k * 3) = (xs.take k).flatMap Hold.cs := by
      rw [List.take_append_of_le_length (by omega), List.take_of_length_le (by omega)]
    have hA2 : ((xs.take k).flatMap Hold.cs ++ zeros [D.int .i64 0, D.int .i64 0, D.int .i64 0] (xs.length + 1 - k)).drop (k * 3 + 3) = zeros [D.int .i64 0, D.int .i64 0, D.int .i64 0] (xs.length - k) := by
      rw [show xs.length + 1 - k = (xs.length - k) + 1 by omega, zeros3, List.drop_append, List.drop_eq_nil_of_le (by omega), hlk, show k * 3 + 3 - k * 3 = 3 by omega]
      rfl
    have hB1 : ((xs.take k).flatMap Hold.cs ++ (D.int .i64 o.txn :: D.int .i64 o.cls :: D.int .i64 o.seats :: zeros [D.int .i64 0, D.int .i64 0, D.int .i64 0] (xs.length - k))).take ((k + 1) * 3) = (xs.take k).flatMap Hold.cs ++ [D.int .i64 o.txn, D.int .i64 o.cls, D.int .i64 o.seats] := by
      rw [List.take_append, List.take_of_length_le (by omega), hlk, show (k + 1) * 3 - k * 3 = 3 by omega]
      rfl
    have hB2 : ((xs.take k).flatMap Hold.cs ++ (D.int .i64 o.txn :: D.int .i64 o.cls :: D.int .i64 o.seats :: zeros [D.int .i64 0, D.int .i64 0, D.int .i64 0] (xs.length - k))).drop ((k + 1) * 3 + (xs.length - k) * 3) = [] :=
      List.drop_eq_nil_of_le (by simp only [List.length_append, List.length_cons, zeros3_len, hlk]; omega)
    have hB3 : ((xs.drop k).flatMap Hold.cs).take ((xs.length - k) * 3) = (xs.drop k).flatMap Hold.cs := List.take_of_length_le (by omega)
    have hR : (xs.take k).flatMap Hold.cs ++ (D.int .i64 o.txn :: D.int .i64 o.cls :: D.int .i64 o.seats :: (xs.drop k).flatMap Hold.cs) = (xs.take k ++ o :: xs.drop k).flatMap Hold.cs := by
      rw [List.flatMap_append, List.flatMap_cons]
      rfl
    have hlen : (xs.take k ++ o :: xs.drop k).length = xs.length + 1 := by simp only [List.length_append, List.length_cons, List.length_take, List.length_drop]; omega
    have hrp : rowPart (h ++ [.row ((xs.take k ++ o :: xs.drop k).flatMap Hold.cs)]) h.length 3 0 (xs.length + 1) = (xs.take k ++ o :: xs.drop k).flatMap Hold.cs := rp_holds (k := 0) rfl hlen.symm
    have hch : chunk true 3 (xs.length + 1) ((xs.take k ++ o :: xs.drop k).flatMap Hold.cs) = (xs.take k ++ o :: xs.drop k).map Hold.d := chunk_holds _ _ hlen.symm
    have hadd : k + (xs.length + 1 - k) = xs.length + 1 := by omega
    try simp -implicitDefEqProofs only [lenMax, Int.zero_add, Nat.zero_add, hw, hw1, hw2, hmin, htn, hadd, hm1, hlk, zeros3_len, hmin1, ht3, ht1, hm2, hlb, hA1, hA2, hB1, hB2, hB3, hR, hrp, hch, Nat.min_self, List.append_nil, push_cast, Nat.reduceEqDiff, Nat.reduceBEq, Nat.reduceBNe, Nat.reduceAdd, Nat.reduceMul, Nat.reduceLT, Nat.reduceLeDiff, Nat.reduceSub, reduceCtorEq, Int.reduceToNat, ↓reduceIte]
    repeat'
      (first
       | (refine uYes ?_; first | exact List.mem_cons_self | (simp only [List.mem_cons, List.not_mem_nil, or_false, true_or, or_true]; done))
       | (refine uNo (by kernel_rfl))
       | (refine flatMk ?_; kernel_rfl)
       | (refine And.intro ?_ ?_)
       | (intro hx)
       | ((first
           | (refine callGF ?_)
           | (refine callQGF ?_)
           | (refine skipG ?_)
           | (refine inX_mk [h.length] (by kernel_rfl) (by simp) ?_)); simp -implicitDefEqProofs only [lenMax, Int.zero_add, Nat.zero_add, hw, hw1, hw2, hmin, htn, hadd, hm1, hlk, zeros3_len, hmin1, ht3, ht1, hm2, hlb, hA1, hA2, hB1, hB2, hB3, hR, hrp, hch, Nat.min_self, List.append_nil, push_cast, Nat.reduceEqDiff, Nat.reduceBEq, Nat.reduceBNe, Nat.reduceAdd, Nat.reduceMul, Nat.reduceLT, Nat.reduceLeDiff, Nat.reduceSub, reduceCtorEq, Int.reduceToNat, ↓reduceIte]))
    all_goals first
      | omega
      | exact holds_cl _ _ _ hx
      | exact holds_c1 _ _ hx
      | (rw [List.drop_length, List.map_append]; rfl)
      | (rw [holds_len, hlen]; exact Nat.le_refl _)
      | (simp only [List.mem_cons, List.not_mem_nil, or_false] at hx; rcases hx with rfl | rfl | rfl <;> trivial)
      | trace_state
end Go.Proofs.Ytmehbbepppjikaa

namespace Go.Proofs.Ytmehbbepppjikaa
open Go.Av
set_option maxRecDepth 10000
set_option maxHeartbeats 1000000
set_option linter.unusedSimpArgs false
set_option linter.unusedVariables false

def Leg.fc (l : Leg) : List D := [.str l.name, .str l.src, .str l.dst, .int .i64 l.dep, .int .i64 l.arr, .int .i64 l.cap, .slice (l.limits.map (.int .i64)) .full, .slice (l.sold.map (.int .i64)) .full, .slice (l.bids.map (.int .i64)) .full, .slice (l.holds.map Hold.d) .full]
def Leg.fd (l : Leg) : D := .agg l.fc
theorem Leg.fd_wk (l : Leg) : Wk l.fd l.d := by
  refine .agg _ _ rfl fun k h1 h2 => ?_
  simp only [Leg.fc, List.length_cons, List.length_nil] at h1
  match k, h1 with
  | 0, _ => exact .refl _
  | 1, _ => exact .refl _
  | 2, _ => exact .refl _
  | 3, _ => exact .refl _
  | 4, _ => exact .refl _
  | 5, _ => exact .refl _
  | 6, _ => exact .tok _ _
  | 7, _ => exact .tok _ _
  | 8, _ => exact .tok _ _
  | 9, _ => exact .tok _ _
theorem copyF_gives (l : Leg) (h : Hp) : Gives Try.prog 105 [l.d] h l.fd := by
  refine meets_of [] mixed Try.func105 rfl (by kernel_rfl) (by kernel_rfl) (by rw [Try.ntmps105]; simp only [List.length_cons, List.length_nil]; omega) (fun hf => ?_)
  rw [Try.results105]
  clear hf
  try simp -implicitDefEqProofs only [Leg.fd, Leg.fc, push_cast, Nat.reduceEqDiff, Nat.reduceBEq, Nat.reduceBNe, Nat.reduceAdd, Nat.reduceMul, Nat.reduceLT, Nat.reduceLeDiff, Nat.reduceSub, reduceCtorEq, Int.reduceToNat, ↓reduceIte]
  repeat'
    (first
     | (refine uYes ?_; first | exact List.mem_cons_self | (simp only [List.mem_cons, List.not_mem_nil, or_false, true_or, or_true]; done))
     | (refine uNo (by kernel_rfl))
     | (refine flatMk ?_; kernel_rfl)
     | (refine And.intro ?_ ?_)
     | (intro hx)
     | ((first
         | (refine inX_mk [] (by kernel_rfl) (by simp) ?_)
         | (refine callGF ?_)
         | (refine callQGF ?_)
         | (refine skipG ?_)
         | (refine callS (iclone_gives _ _) ?_)
         | (refine callQ (iclone_gives _ _) ?_)
         | (refine callG (fun hc => (iclone_gives _ _)) ?_)
         | (refine callQG (fun hc => (iclone_gives _ _)) ?_)
         | (refine callXG (fun _ => (iclone_gives _ _)) ?_)
         | (refine callS (hclone_gives _ _) ?_)
         | (refine callQ (hclone_gives _ _) ?_)
         | (refine callG (fun hc => (hclone_gives _ _)) ?_)
         | (refine callQG (fun hc => (hclone_gives _ _)) ?_)
         | (refine callXG (fun _ => (hclone_gives _ _)) ?_)); simp -implicitDefEqProofs only [Leg.fd, Leg.fc, push_cast, Nat.reduceEqDiff, Nat.reduceBEq, Nat.reduceBNe, Nat.reduceAdd, Nat.reduceMul, Nat.reduceLT, Nat.reduceLeDiff, Nat.reduceSub, reduceCtorEq, Int.reduceToNat, ↓reduceIte]))
  all_goals first
    | omega
    | trace_state
theorem can_gives (l : Leg) (o : Hold) (s : Int) (h : Hp) (hp : LegP l) : Gives Try.prog 132 [l.d, o.d, .int .i64 s] h (.bool (canB l o s)) := by
  have hlb := hp.mk_leg
  have hc := hp.cap
  have hll := hp.holds
  have hidx : decide (0 ≤ heldIdx l o.txn) = thereB l o.txn := by
    cases ht : thereB l o.txn with
    | true => exact decide_eq_true (by rw [hp.there_t ht]; omega)
    | false => exact decide_eq_false (by have := hp.there_f ht; omega)
  cases hf : fitB l o with
  | false =>
    rw [show canB l o s = false by rw [canB, hf]; rfl]
    cases ht : thereB l o.txn with
    | true =>
      refine meets_of [] mixed Try.func132 rfl (by kernel_rfl) (by kernel_rfl) (by rw [Try.ntmps132]; simp only [List.length_cons, List.length_nil]; omega) (fun hf => ?_)
      rw [Try.results132]
      clear hf
      try simp -implicitDefEqProofs only [hidx, ht, push_cast, Nat.reduceEqDiff, Nat.reduceBEq, Nat.reduceBNe, Nat.reduceAdd, Nat.reduceMul, Nat.reduceLT, Nat.reduceLeDiff, Nat.reduceSub, reduceCtorEq, Int.reduceToNat, ↓reduceIte]
      repeat'
        (first
         | (refine uYes ?_; first | exact List.mem_cons_self | (simp only [List.mem_cons, List.not_mem_nil, or_false, true_or, or_true]; done))
         | (refine uNo (by kernel_rfl))
         | (refine flatMk ?_; kernel_rfl)
         | (refine And.intro ?_ ?_)
         | (intro hx)
         | ((first
             | (refine callGF ?_)
             | (refine callQGF ?_)
             | (refine skipG ?_)
             | (refine callS (held_gives l o.txn _) ?_)
             | (refine callQ (held_gives l o.txn _) ?_)
             | (refine callG (fun hc => (held_gives l o.txn _)) ?_)
             | (refine callQG (fun hc => (held_gives l o.txn _)) ?_)
             | (refine callS (may_gives l o _) ?_)
             | (refine callQ (may_gives l o _) ?_)
             | (refine callG (fun hc => (may_gives l o _)) ?_)
             | (refine callQG (fun hc => (may_gives l o _)) ?_)); simp -implicitDefEqProofs only [hidx, ht, push_cast, Nat.reduceEqDiff, Nat.reduceBEq, Nat.reduceBNe, Nat.reduceAdd, Nat.reduceMul, Nat.reduceLT, Nat.reduceLeDiff, Nat.reduceSub, reduceCtorEq, Int.reduceToNat, ↓reduceIte]))
      all_goals first
        | omega
        | trace_state
    | false =>
      by_cases h6 : (l.holds.length : Int) = 6
      · have h6' : decide ((l.holds.length : Int) = 6) = true := decide_eq_true h6
        refine meets_of [] mixed Try.func132 rfl (by kernel_rfl) (by kernel_rfl) (by rw [Try.ntmps132]; simp only [List.length_cons, List.length_nil]; omega) (fun hf => ?_)
        rw [Try.results132]
        clear hf
        try simp -implicitDefEqProofs only [hidx, ht, h6', push_cast, Nat.reduceEqDiff, Nat.reduceBEq, Nat.reduceBNe, Nat.reduceAdd, Nat.reduceMul, Nat.reduceLT, Nat.reduceLeDiff, Nat.reduceSub, reduceCtorEq, Int.reduceToNat, ↓reduceIte]
        repeat'
          (first
           | (refine uYes ?_; first | exact List.mem_cons_self | (simp only [List.mem_cons, List.not_mem_nil, or_false, true_or, or_true]; done))
           | (refine uNo (by kernel_rfl))
           | (refine flatMk ?_; kernel_rfl)
           | (refine And.intro ?_ ?_)
           | (intro hx)
           | ((first
               | (refine callGF ?_)
               | (refine callQGF ?_)
               | (refine skipG ?_)
               | (refine callS (held_gives l o.txn _) ?_)
               | (refine callQ (held_gives l o.txn _) ?_)
               | (refine callG (fun hc => (held_gives l o.txn _)) ?_)
               | (refine callQG (fun hc => (held_gives l o.txn _)) ?_)
               | (refine callS (may_gives l o _) ?_)
               | (refine callQ (may_gives l o _) ?_)
               | (refine callG (fun hc => (may_gives l o _)) ?_)
               | (refine callQG (fun hc => (may_gives l o _)) ?_)); simp -implicitDefEqProofs only [hidx, ht, h6', push_cast, Nat.reduceEqDiff, Nat.reduceBEq, Nat.reduceBNe, Nat.reduceAdd, Nat.reduceMul, Nat.reduceLT, Nat.reduceLeDiff, Nat.reduceSub, reduceCtorEq, Int.reduceToNat, ↓reduceIte]))
        all_goals first
          | omega
          | trace_state
      · have h6' : decide ((l.holds.length : Int) = 6) = false := decide_eq_false h6
        have hm : mayB l o = false := by
          cases e : mayB l o with
          | false => rfl
          | true =>
            rw [fitB, ht, e, decide_eq_true (show l.holds.length < 6 by omega)] at hf
            cases hf
        refine meets_of [] mixed Try.func132 rfl (by kernel_rfl) (by kernel_rfl) (by rw [Try.ntmps132]; simp only [List.length_cons, List.length_nil]; omega) (fun hf => ?_)
        rw [Try.results132]
        clear hf
        try simp -implicitDefEqProofs only [hidx, ht, h6', hm, push_cast, Nat.reduceEqDiff, Nat.reduceBEq, Nat.reduceBNe, Nat.reduceAdd, Nat.reduceMul, Nat.reduceLT, Nat.reduceLeDiff, Nat.reduceSub, reduceCtorEq, Int.reduceToNat, ↓reduceIte]
        repeat'
          (first
           | (refine uYes ?_; first | exact List.mem_cons_self | (simp only [List.mem_cons, List.not_mem_nil, or_false, true_or, or_true]; done))
           | (refine uNo (by kernel_rfl))
           | (refine flatMk ?_; kernel_rfl)
           | (refine And.intro ?_ ?_)
           | (intro hx)
           | ((first
               | (refine callGF ?_)
               | (refine callQGF ?_)
               | (refine skipG ?_)
               | (refine callS (held_gives l o.txn _) ?_)
               | (refine callQ (held_gives l o.txn _) ?_)
               | (refine callG (fun hc => (held_gives l o.txn _)) ?_)
               | (refine callQG (fun hc => (held_gives l o.txn _)) ?_)
               | (refine callS (may_gives l o _) ?_)
               | (refine callQ (may_gives l o _) ?_)
               | (refine callG (fun hc => (may_gives l o _)) ?_)
               | (refine callQG (fun hc => (may_gives l o _)) ?_)); simp -implicitDefEqProofs only [hidx, ht, h6', hm, push_cast, Nat.reduceEqDiff, Nat.reduceBEq, Nat.reduceBNe, Nat.reduceAdd, Nat.reduceMul, Nat.reduceLT, Nat.reduceLeDiff, Nat.reduceSub, reduceCtorEq, Int.reduceToNat, ↓reduceIte]))
        all_goals first
          | omega
          | trace_state
  | true =>
    obtain ⟨t1, t2, t3, t4, t5, t6, t7⟩ := (fitB_iff hp).1 hf
    have t4' := inB_iff.1 t4
    have hmay : mayB l o = true := by
      rw [fitB, Bool.and_eq_true] at hf; exact hf.2
    have hs := hp.sold
    have hb := hp.backI o.cls
    have hsx : 0 ≤ l.sold.getD o.cls.toNat 0 ∧ l.sold.getD o.cls.toNat 0 ≤ l.cap := (all_getD (d := 0) (p := fun x => 0 ≤ x ∧ x ≤ l.cap)).2 hp.sol o.cls.toNat (by omega)
    have hcan : canB l o s = (if 0 < o.seats then decide (o.seats ≤ roomW l 9 (o.cls.toNat + 1)) && decide (bidV l ≤ s) else decide (-o.seats ≤ l.sold.getD o.cls.toNat 0 - backV l o.cls)) := by rw [canB, hf]; rfl
    have h6 : decide ((l.holds.length : Int) = 6) = false := decide_eq_false (by omega)
    have hw1 : IntKind.i64.wrap (0 - o.seats) = -o.seats := by rw [wrap_id (by omega) (by omega)]; omega
    have hw1' : IntKind.i64.wrap (-o.seats) = -o.seats := wrap_id (by omega) (by omega)
    have hw2 : IntKind.i64.wrap (l.sold.getD o.cls.toNat 0 - backV l o.cls) = l.sold.getD o.cls.toNat 0 - backV l o.cls := wrap_id (by omega) (by omega)
    rw [hcan]
    by_cases hp0 : 0 < o.seats
    · simp only [hp0, if_true]
      refine meets_of [] mixed Try.func132 rfl (by kernel_rfl) (by kernel_rfl) (by rw [Try.ntmps132]; simp only [List.length_cons, List.length_nil]; omega) (fun hf => ?_)
      rw [Try.results132]
      clear hf
      try simp -implicitDefEqProofs only [hidx, t1, hmay, h6, hp0, push_cast, Nat.reduceEqDiff, Nat.reduceBEq, Nat.reduceBNe, Nat.reduceAdd, Nat.reduceMul, Nat.reduceLT, Nat.reduceLeDiff, Nat.reduceSub, reduceCtorEq, Int.reduceToNat, ↓reduceIte]
      repeat'
        (first
         | (refine uYes ?_; first | exact List.mem_cons_self | (simp only [List.mem_cons, List.not_mem_nil, or_false, true_or, or_true]; done))
         | (refine uNo (by kernel_rfl))
         | (refine flatMk ?_; kernel_rfl)
         | (refine And.intro ?_ ?_)
         | (intro hx)
         | ((first
             | (refine callGF ?_)
             | (refine callQGF ?_)
             | (refine skipG ?_)
             | (refine callS (held_gives l o.txn _) ?_)
             | (refine callQ (held_gives l o.txn _) ?_)
             | (refine callG (fun hc => (held_gives l o.txn _)) ?_)
             | (refine callQG (fun hc => (held_gives l o.txn _)) ?_)
             | (refine callS (may_gives l o _) ?_)
             | (refine callQ (may_gives l o _) ?_)
             | (refine callG (fun hc => (may_gives l o _)) ?_)
             | (refine callQG (fun hc => (may_gives l o _)) ?_)
             | (refine callS (room_gives l o.cls _ t4'.1 t4'.2 hp.limits hp.sold) ?_)
             | (refine callQ (room_gives l o.cls _ t4'.1 t4'.2 hp.limits hp.sold) ?_)
             | (refine callG (fun hc => (room_gives l o.cls _ t4'.1 t4'.2 hp.limits hp.sold)) ?_)
             | (refine callQG (fun hc => (room_gives l o.cls _ t4'.1 t4'.2 hp.limits hp.sold)) ?_)
             | (refine callS (bid_gives l _ hlb) ?_)
             | (refine callQ (bid_gives l _ hlb) ?_)
             | (refine callG (fun hc => (bid_gives l _ hlb)) ?_)
             | (refine callQG (fun hc => (bid_gives l _ hlb)) ?_)
             | (refine callS (back_gives l o.cls _) ?_)
             | (refine callQ (back_gives l o.cls _) ?_)
             | (refine callG (fun hc => (back_gives l o.cls _)) ?_)
             | (refine callQG (fun hc => (back_gives l o.cls _)) ?_)); simp -implicitDefEqProofs only [hidx, t1, hmay, h6, hp0, push_cast, Nat.reduceEqDiff, Nat.reduceBEq, Nat.reduceBNe, Nat.reduceAdd, Nat.reduceMul, Nat.reduceLT, Nat.reduceLeDiff, Nat.reduceSub, reduceCtorEq, Int.reduceToNat, ↓reduceIte]))
      all_goals first
        | omega
        | rfl
        | trace_state
    · have hp0' : decide (0 < o.seats) = false := decide_eq_false hp0
      simp only [hp0, if_false]
      refine meets_of [] mixed Try.func132 rfl (by kernel_rfl) (by kernel_rfl) (by rw [Try.ntmps132]; simp only [List.length_cons, List.length_nil]; omega) (fun hf => ?_)
      rw [Try.results132]
      clear hf
      try simp -implicitDefEqProofs only [hidx, t1, hmay, h6, hp0', hw1, hw1', hw2, push_cast, Nat.reduceEqDiff, Nat.reduceBEq, Nat.reduceBNe, Nat.reduceAdd, Nat.reduceMul, Nat.reduceLT, Nat.reduceLeDiff, Nat.reduceSub, reduceCtorEq, Int.reduceToNat, ↓reduceIte]
      repeat'
        (first
         | (refine uYes ?_; first | exact List.mem_cons_self | (simp only [List.mem_cons, List.not_mem_nil, or_false, true_or, or_true]; done))
         | (refine uNo (by kernel_rfl))
         | (refine flatMk ?_; kernel_rfl)
         | (refine And.intro ?_ ?_)
         | (intro hx)
         | ((first
             | (refine callGF ?_)
             | (refine callQGF ?_)
             | (refine skipG ?_)
             | (refine callS (held_gives l o.txn _) ?_)
             | (refine callQ (held_gives l o.txn _) ?_)
             | (refine callG (fun hc => (held_gives l o.txn _)) ?_)
             | (refine callQG (fun hc => (held_gives l o.txn _)) ?_)
             | (refine callS (may_gives l o _) ?_)
             | (refine callQ (may_gives l o _) ?_)
             | (refine callG (fun hc => (may_gives l o _)) ?_)
             | (refine callQG (fun hc => (may_gives l o _)) ?_)
             | (refine callS (bid_gives l _ hlb) ?_)
             | (refine callQ (bid_gives l _ hlb) ?_)
             | (refine callG (fun hc => (bid_gives l _ hlb)) ?_)
             | (refine callQG (fun hc => (bid_gives l _ hlb)) ?_)
             | (refine callS (back_gives l o.cls _) ?_)
             | (refine callQ (back_gives l o.cls _) ?_)
             | (refine callG (fun hc => (back_gives l o.cls _)) ?_)
             | (refine callQG (fun hc => (back_gives l o.cls _)) ?_)); simp -implicitDefEqProofs only [hidx, t1, hmay, h6, hp0', hw1, hw1', hw2, push_cast, Nat.reduceEqDiff, Nat.reduceBEq, Nat.reduceBNe, Nat.reduceAdd, Nat.reduceMul, Nat.reduceLT, Nat.reduceLeDiff, Nat.reduceSub, reduceCtorEq, Int.reduceToNat, ↓reduceIte]))
      all_goals first
        | omega
        | rfl
        | trace_state
end Go.Proofs.Ytmehbbepppjikaa

namespace Go.Proofs.Ytmehbbepppjikaa
open Go.Av
set_option maxRecDepth 10000
set_option maxHeartbeats 1000000
set_option linter.unusedSimpArgs false
set_option linter.unusedVariables false

theorem callQW {P : Program} {ops rest : List Oper} {dst : Option Tmp} {fr : Fr} {h : Hp} {K : St → Prop} {f : FuncId} {ys zs : List D} {d : D} (c : Gives P f zs h d) (hw : WkL ys zs) (k : evQs P ops rest ⟨putO fr dst d, h⟩ K) : CallQ P ops rest dst fr h K f ys := callQ_gives c hw k
theorem Leg.fc_cl (l : Leg) (n : Nat) : ∀ d, d ∈ l.fc → Cl n d := by
  intro d hd
  simp only [Leg.fc, List.mem_cons, List.not_mem_nil, or_false] at hd
  rcases hd with rfl | rfl | rfl | rfl | rfl | rfl | rfl | rfl | rfl | rfl
  · exact .str _
  · exact .str _
  · exact .str _
  · exact .int _ _
  · exact .int _ _
  · exact .int _ _
  all_goals exact .slice _ _ (fun _ _ e => nomatch e)
theorem back_fc {h : Hp} {r : Nat} (hrl : r < h.length) (l : Leg) (junk : Hp) : Back h (h.set r (.row l.fc) ++ junk) (h.set r (.row l.fc)) :=
  back_pre (by simp) (old_set (old_id h _) _ (l.fc_cl _))
theorem holdF_no (l : Leg) (o : Hold) (s : Int) (r : Nat) (h : Hp) (hr : ob h r = .row l.fc) (hrl : r < h.length) (hp : LegP l) (hc : canB l o s = false) :
    Gives Try.prog 106 [.ptr r 0, o.d, .int .i64 s] h (.bool false) := by
  obtain ⟨r1, r2, r3, r4, r5, r6, r7, r8, r9⟩ := rdf hrl
  have r4' := fun ls => (r4 ls).trans hr
  simp only [Leg.fc] at r4'
  have hC := fun g => can_gives l o s g hp
  rw [hc] at hC
  refine meets_of [] mixed Try.func106 rfl (by kernel_rfl) (by kernel_rfl) (by rw [Try.ntmps106]; simp only [List.length_cons, List.length_nil]; omega) (fun hf => ?_)
  rw [Try.results106]
  clear hf
  try simp -implicitDefEqProofs only [r4', push_cast, Nat.reduceEqDiff, Nat.reduceBEq, Nat.reduceBNe, Nat.reduceAdd, Nat.reduceMul, Nat.reduceLT, Nat.reduceLeDiff, Nat.reduceSub, reduceCtorEq, Int.reduceToNat, ↓reduceIte]
  repeat'
    (first
     | (refine uYes ?_; first | exact List.mem_cons_self | (simp only [List.mem_cons, List.not_mem_nil, or_false, true_or, or_true]; done))
     | (refine uNo (by kernel_rfl))
     | (refine flatMk ?_; kernel_rfl)
     | (refine And.intro ?_ ?_)
     | (intro hx)
     | ((first
         | (refine callGF ?_)
         | (refine callQGF ?_)
         | (refine skipG ?_)
         | (refine callQW (hC _) ⟨l.fd_wk, .refl _, .refl _, trivial⟩ ?_)); simp -implicitDefEqProofs only [r4', push_cast, Nat.reduceEqDiff, Nat.reduceBEq, Nat.reduceBNe, Nat.reduceAdd, Nat.reduceMul, Nat.reduceLT, Nat.reduceLeDiff, Nat.reduceSub, reduceCtorEq, Int.reduceToNat, ↓reduceIte]))
  all_goals first
    | omega
    | trace_state
theorem holdF_yes (l : Leg) (o : Hold) (s : Int) (r : Nat) (h : Hp) (hr : ob h r = .row l.fc) (hrl : r < h.length) (hp : LegP l) (hc : canB l o s = true) :
    Meets Try.prog 106 [.ptr r 0, o.d, .int .i64 s] h fun d' h' => d' = .bool true ∧ h' = h.set r (.row (holdL l o).fc) := by
  obtain ⟨r1, r2, r3, r4, r5, r6, r7, r8, r9⟩ := rdf hrl
  have r4' := fun ls => (r4 ls).trans hr
  simp only [Leg.fc] at r4'
  have hC := fun g => can_gives l o s g hp
  rw [hc] at hC
  have hll := hp.holds
  refine meets_of [] mixed Try.func106 rfl (by kernel_rfl) (by kernel_rfl) (by rw [Try.ntmps106]; simp only [List.length_cons, List.length_nil]; omega) (fun hf => ?_)
  rw [Try.results106]
  clear hf
  try simp -implicitDefEqProofs only [r4', push_cast, Nat.reduceEqDiff, Nat.reduceBEq, Nat.reduceBNe, Nat.reduceAdd, Nat.reduceMul, Nat.reduceLT, Nat.reduceLeDiff, Nat.reduceSub, reduceCtorEq, Int.reduceToNat, ↓reduceIte]
  repeat'
    (first
     | (refine uYes ?_; first | exact List.mem_cons_self | (simp only [List.mem_cons, List.not_mem_nil, or_false, true_or, or_true]; done))
     | (refine uNo (by kernel_rfl))
     | (refine flatMk ?_; kernel_rfl)
     | (refine And.intro ?_ ?_)
     | (intro hx)
     | ((first
         | (refine callGF ?_)
         | (refine callQGF ?_)
         | (refine skipG ?_)
         | (refine callQW (hC _) ⟨l.fd_wk, .refl _, .refl _, trivial⟩ ?_)); simp -implicitDefEqProofs only [r4', push_cast, Nat.reduceEqDiff, Nat.reduceBEq, Nat.reduceBNe, Nat.reduceAdd, Nat.reduceMul, Nat.reduceLT, Nat.reduceLeDiff, Nat.reduceSub, reduceCtorEq, Int.reduceToNat, ↓reduceIte]))
  all_goals try omega
  refine ev_loop [] (fun k : Nat => [(0, .ptr r 0), (2, .int .i64 s), (4, .ptr h.length 0), (7, .int .i64 k)])
    (fun _ => [.row o.cs]) (fun k => k ≤ l.holds.length ∧ ∀ i, i < k → (l.holds.getD i default).txn < o.txn) (fun k => l.holds.length - k) 0 trivial ⟨Nat.zero_le _, fun i hi => absurd hi (Nat.not_lt_zero i)⟩ ?_ ?_
  · refine ⟨1, by simp, by simp [tokSts], ?_⟩
    simp -implicitDefEqProofs only [Int.natCast_add, Int.cast_ofNat_Int, List.length_nil, Nat.le_refl, WeakTo, tokSts, tokOks, List.append_cancel_left_eq, exists_eq_left', exists_eq_left, List.append_cancel_left_eq, List.take_length, ObCl, and_true, true_and, push_cast, Nat.reduceEqDiff, Nat.reduceBEq, Nat.reduceBNe, Nat.reduceAdd, Nat.reduceMul, Nat.reduceLT, Nat.reduceLeDiff, Nat.reduceSub, reduceCtorEq, Int.reduceToNat, ↓reduceIte]
    omega
  · intro k hk
    have hw : IntKind.i64.wrap ((k : Int) + 1) = k + 1 := wrap_id (by omega) (by omega)
    try simp -implicitDefEqProofs only [hw, r4', lenMax, push_cast, Nat.reduceEqDiff, Nat.reduceBEq, Nat.reduceBNe, Nat.reduceAdd, Nat.reduceMul, Nat.reduceLT, Nat.reduceLeDiff, Nat.reduceSub, reduceCtorEq, Int.reduceToNat, ↓reduceIte]
    repeat'
      (first
       | (refine uYes ?_; first | exact List.mem_cons_self | (simp only [List.mem_cons, List.not_mem_nil, or_false, true_or, or_true]; done))
       | (refine uNo (by kernel_rfl))
       | (refine flatMk ?_; kernel_rfl)
       | (refine And.intro ?_ ?_)
       | (intro hx)
       | ((first
           | (refine inX_mk [] (by kernel_rfl) (by simp) ?_)
           | (refine callGF ?_)
           | (refine callQGF ?_)
           | (refine skipG ?_)
           | (refine callS (insert_gives l.holds o k _ hk.1 (by omega)) ?_)
           | (refine callQ (insert_gives l.holds o k _ hk.1 (by omega)) ?_)
           | (refine callG (fun hc => (insert_gives l.holds o k _ hk.1 (by omega))) ?_)
           | (refine callQG (fun hc => (insert_gives l.holds o k _ hk.1 (by omega))) ?_)
           | (refine callXG (fun _ => (insert_gives l.holds o k _ hk.1 (by omega))) ?_)
           | (refine callS (hclone_gives _ _) ?_)
           | (refine callQ (hclone_gives _ _) ?_)
           | (refine callG (fun hc => (hclone_gives _ _)) ?_)
           | (refine callQG (fun hc => (hclone_gives _ _)) ?_)
           | (refine callXG (fun _ => (hclone_gives _ _)) ?_)); simp -implicitDefEqProofs only [hw, r4', lenMax, push_cast, Nat.reduceEqDiff, Nat.reduceBEq, Nat.reduceBNe, Nat.reduceAdd, Nat.reduceMul, Nat.reduceLT, Nat.reduceLeDiff, Nat.reduceSub, reduceCtorEq, Int.reduceToNat, ↓reduceIte]))
    all_goals first
      | omega
      | (refine round_mk (k + 1) ⟨by omega, fun i hi => ?_⟩ (by omega) ?_
         · by_cases e : i = k
           · subst e; exact hx.2
           · exact hk.2 i (by omega)
         · simp -implicitDefEqProofs only [hw, Int.natCast_add, Int.cast_ofNat_Int, List.length_nil, Nat.le_refl, WeakTo, tokSts, tokOks, List.append_cancel_left_eq, exists_eq_left', exists_eq_left, List.append_cancel_left_eq, List.take_length, ObCl, and_true, true_and, push_cast, Nat.reduceEqDiff, Nat.reduceBEq, Nat.reduceBNe, Nat.reduceAdd, Nat.reduceMul, Nat.reduceLT, Nat.reduceLeDiff, Nat.reduceSub, reduceCtorEq, Int.reduceToNat, ↓reduceIte]
           omega)
      | (have e : placeN l o.txn = k := whileN_at default hk.1 (fun i hi => decide_eq_true (hk.2 i hi)) (fun hi => decide_eq_false (by omega))
         rw [r1, holdL, e]
         exact back_fc hrl { l with holds := l.holds.take k ++ o :: l.holds.drop k } _)
      | trace_state
end Go.Proofs.Ytmehbbepppjikaa

namespace Go.Proofs.Ytmehbbepppjikaa
open Go.Av
set_option maxRecDepth 10000
set_option maxHeartbeats 1000000
set_option linter.unusedSimpArgs false
set_option linter.unusedVariables false

/-- what LegHold hands back -/
def heldV (l : Leg) (o : Hold) (s : Int) : Leg := if legB l then (if canB l o s then holdL l o else l) else default
def heldB (l : Leg) (o : Hold) (s : Int) : Bool := legB l && canB l o s
theorem implLegHold_gives (l : Leg) (o : Hold) (s : Int) (h : Hp) : Gives Try.prog 53 [l.d, o.d, .int .i64 s] h (.tup [(heldV l o s).d, .bool (heldB l o s)]) := by
  cases hb : legB l with
  | false =>
    rw [heldV, heldB, hb]
    show Gives _ _ _ _ (.tup [Leg.d default, .bool false])
    refine meets_of [] mixed Try.func53 rfl (by kernel_rfl) (by kernel_rfl) (by rw [Try.ntmps53]; simp only [List.length_cons, List.length_nil]; omega) (fun hf => ?_)
    rw [Try.results53]
    clear hf
    try simp -implicitDefEqProofs only [hb, push_cast, Nat.reduceEqDiff, Nat.reduceBEq, Nat.reduceBNe, Nat.reduceAdd, Nat.reduceMul, Nat.reduceLT, Nat.reduceLeDiff, Nat.reduceSub, reduceCtorEq, Int.reduceToNat, ↓reduceIte]
    repeat'
      (first
       | (refine uYes ?_; first | exact List.mem_cons_self | (simp only [List.mem_cons, List.not_mem_nil, or_false, true_or, or_true]; done))
       | (refine uNo (by kernel_rfl))
       | (refine flatMk ?_; kernel_rfl)
       | (refine And.intro ?_ ?_)
       | (intro hx)
       | ((first
           | (refine callGF ?_)
           | (refine callQGF ?_)
           | (refine skipG ?_)
           | (refine callS (implLegOk_gives l _) ?_)
           | (refine callQ (implLegOk_gives l _) ?_)
           | (refine callG (fun hc => (implLegOk_gives l _)) ?_)
           | (refine callQG (fun hc => (implLegOk_gives l _)) ?_)); simp -implicitDefEqProofs only [hb, push_cast, Nat.reduceEqDiff, Nat.reduceBEq, Nat.reduceBNe, Nat.reduceAdd, Nat.reduceMul, Nat.reduceLT, Nat.reduceLeDiff, Nat.reduceSub, reduceCtorEq, Int.reduceToNat, ↓reduceIte]))
    all_goals first
      | rfl
      | trace_state
  | true =>
    have hp := legP_of hb
    cases hc : canB l o s with
    | false =>
      rw [heldV, heldB, hb, hc]
      show Gives _ _ _ _ (.tup [l.d, .bool false])
      refine meets_of [] mixed Try.func53 rfl (by kernel_rfl) (by kernel_rfl) (by rw [Try.ntmps53]; simp only [List.length_cons, List.length_nil]; omega) (fun hf => ?_)
      rw [Try.results53]
      clear hf
      try simp -implicitDefEqProofs only [hb, Leg.fd, Leg.fc, push_cast, Nat.reduceEqDiff, Nat.reduceBEq, Nat.reduceBNe, Nat.reduceAdd, Nat.reduceMul, Nat.reduceLT, Nat.reduceLeDiff, Nat.reduceSub, reduceCtorEq, Int.reduceToNat, ↓reduceIte]
      repeat'
        (first
         | (refine uYes ?_; first | exact List.mem_cons_self | (simp only [List.mem_cons, List.not_mem_nil, or_false, true_or, or_true]; done))
         | (refine uNo (by kernel_rfl))
         | (refine flatMk ?_; kernel_rfl)
         | (refine And.intro ?_ ?_)
         | (intro hx)
         | ((first
             | (refine callGF ?_)
             | (refine callQGF ?_)
             | (refine skipG ?_)
             | (refine callS (implLegOk_gives l _) ?_)
             | (refine callQ (implLegOk_gives l _) ?_)
             | (refine callG (fun hc => (implLegOk_gives l _)) ?_)
             | (refine callQG (fun hc => (implLegOk_gives l _)) ?_)
             | (refine callS (copyF_gives l _) ?_)
             | (refine callQ (copyF_gives l _) ?_)
             | (refine callG (fun hc => (copyF_gives l _)) ?_)
             | (refine callQG (fun hc => (copyF_gives l _)) ?_)
             | (refine callS (holdF_no l o s (h.length + 3) _ (ob_app h _ 3) (by simp) hp hc) ?_)
             | (refine callQ (holdF_no l o s (h.length + 3) _ (ob_app h _ 3) (by simp) hp hc) ?_)
             | (refine callG (fun hc => (holdF_no l o s (h.length + 3) _ (ob_app h _ 3) (by simp) hp hc)) ?_)
             | (refine callQG (fun hc => (holdF_no l o s (h.length + 3) _ (ob_app h _ 3) (by simp) hp hc)) ?_)); simp -implicitDefEqProofs only [hb, Leg.fd, Leg.fc, push_cast, Nat.reduceEqDiff, Nat.reduceBEq, Nat.reduceBNe, Nat.reduceAdd, Nat.reduceMul, Nat.reduceLT, Nat.reduceLeDiff, Nat.reduceSub, reduceCtorEq, Int.reduceToNat, ↓reduceIte]))
      all_goals first
        | omega
        | rfl
        | trace_state
    | true =>
      rw [heldV, heldB, hb, hc]
      show Gives _ _ _ _ (.tup [(holdL l o).d, .bool true])
      generalize e : holdL l o = x
      refine meets_of [] mixed Try.func53 rfl (by kernel_rfl) (by kernel_rfl) (by rw [Try.ntmps53]; simp only [List.length_cons, List.length_nil]; omega) (fun hf => ?_)
      rw [Try.results53]
      clear hf
      try simp -implicitDefEqProofs only [hb, Leg.fd, Leg.fc, set_app, push_cast, Nat.reduceEqDiff, Nat.reduceBEq, Nat.reduceBNe, Nat.reduceAdd, Nat.reduceMul, Nat.reduceLT, Nat.reduceLeDiff, Nat.reduceSub, reduceCtorEq, Int.reduceToNat, ↓reduceIte]
      repeat'
        (first
         | (refine uYes ?_; first | exact List.mem_cons_self | (simp only [List.mem_cons, List.not_mem_nil, or_false, true_or, or_true]; done))
         | (refine uNo (by kernel_rfl))
         | (refine flatMk ?_; kernel_rfl)
         | (refine And.intro ?_ ?_)
         | (intro hx)
         | ((first
             | (refine callGF ?_)
             | (refine callQGF ?_)
             | (refine skipG ?_)
             | (refine callS (implLegOk_gives l _) ?_)
             | (refine callQ (implLegOk_gives l _) ?_)
             | (refine callG (fun hc => (implLegOk_gives l _)) ?_)
             | (refine callQG (fun hc => (implLegOk_gives l _)) ?_)
             | (refine callS (copyF_gives l _) ?_)
             | (refine callQ (copyF_gives l _) ?_)
             | (refine callG (fun hc => (copyF_gives l _)) ?_)
             | (refine callQG (fun hc => (copyF_gives l _)) ?_)
             | (refine callM (e ▸ holdF_yes l o s (h.length + 3) _ (ob_app h _ 3) (by simp) hp hc) ?_)); simp -implicitDefEqProofs only [hb, Leg.fd, Leg.fc, set_app, push_cast, Nat.reduceEqDiff, Nat.reduceBEq, Nat.reduceBNe, Nat.reduceAdd, Nat.reduceMul, Nat.reduceLT, Nat.reduceLeDiff, Nat.reduceSub, reduceCtorEq, Int.reduceToNat, ↓reduceIte]))
      all_goals first
        | omega
        | rfl
        | trace_state
theorem specLegHold_gives (l : Leg) (o : Hold) (s : Int) (h : Hp) : Gives Try.prog 59 [l.d, o.d, .int .i64 s] h (.tup [(heldV l o s).d, .bool (heldB l o s)]) := by
  cases hb : legB l with
  | false =>
    rw [heldV, heldB, hb]
    show Gives _ _ _ _ (.tup [Leg.d default, .bool false])
    refine meets_of [] mixed Try.func59 rfl (by kernel_rfl) (by kernel_rfl) (by rw [Try.ntmps59]; simp only [List.length_cons, List.length_nil]; omega) (fun hf => ?_)
    rw [Try.results59]
    clear hf
    try simp -implicitDefEqProofs only [← legB_spec, hb, push_cast, Nat.reduceEqDiff, Nat.reduceBEq, Nat.reduceBNe, Nat.reduceAdd, Nat.reduceMul, Nat.reduceLT, Nat.reduceLeDiff, Nat.reduceSub, reduceCtorEq, Int.reduceToNat, ↓reduceIte]
    repeat'
      (first
       | (refine uYes ?_; first | exact List.mem_cons_self | (simp only [List.mem_cons, List.not_mem_nil, or_false, true_or, or_true]; done))
       | (refine uNo (by kernel_rfl))
       | (refine flatMk ?_; kernel_rfl)
       | (refine And.intro ?_ ?_)
       | (intro hx)
       | ((first
           | (refine callGF ?_)
           | (refine callQGF ?_)
           | (refine skipG ?_)
           | (refine callS (specLegOk_gives l _) ?_)
           | (refine callQ (specLegOk_gives l _) ?_)
           | (refine callG (fun hc => (specLegOk_gives l _)) ?_)
           | (refine callQG (fun hc => (specLegOk_gives l _)) ?_)); simp -implicitDefEqProofs only [← legB_spec, hb, push_cast, Nat.reduceEqDiff, Nat.reduceBEq, Nat.reduceBNe, Nat.reduceAdd, Nat.reduceMul, Nat.reduceLT, Nat.reduceLeDiff, Nat.reduceSub, reduceCtorEq, Int.reduceToNat, ↓reduceIte]))
    all_goals first
      | rfl
      | trace_state
  | true =>
    have hp := legP_of hb
    rw [heldV, heldB, hb]
    show Gives _ _ _ _ (.tup [(if canB l o s then holdL l o else l).d, .bool (canB l o s)])
    have hH := fun g => l6Hold_gives l o s g hp
    generalize (if canB l o s then holdL l o else l) = x at hH
    generalize canB l o s = c at hH
    refine meets_of [] mixed Try.func59 rfl (by kernel_rfl) (by kernel_rfl) (by rw [Try.ntmps59]; simp only [List.length_cons, List.length_nil]; omega) (fun hf => ?_)
    rw [Try.results59]
    clear hf
    try simp -implicitDefEqProofs only [← legB_spec, hb, push_cast, Nat.reduceEqDiff, Nat.reduceBEq, Nat.reduceBNe, Nat.reduceAdd, Nat.reduceMul, Nat.reduceLT, Nat.reduceLeDiff, Nat.reduceSub, reduceCtorEq, Int.reduceToNat, ↓reduceIte]
    repeat'
      (first
       | (refine uYes ?_; first | exact List.mem_cons_self | (simp only [List.mem_cons, List.not_mem_nil, or_false, true_or, or_true]; done))
       | (refine uNo (by kernel_rfl))
       | (refine flatMk ?_; kernel_rfl)
       | (refine And.intro ?_ ?_)
       | (intro hx)
       | ((first
           | (refine callGF ?_)
           | (refine callQGF ?_)
           | (refine skipG ?_)
           | (refine callS (specLegOk_gives l _) ?_)
           | (refine callQ (specLegOk_gives l _) ?_)
           | (refine callG (fun hc => (specLegOk_gives l _)) ?_)
           | (refine callQG (fun hc => (specLegOk_gives l _)) ?_)
           | (refine callS (hH _) ?_)
           | (refine callQ (hH _) ?_)
           | (refine callG (fun hc => (hH _)) ?_)
           | (refine callQG (fun hc => (hH _)) ?_)
           | (refine callS (l6Copy_gives x _) ?_)
           | (refine callQ (l6Copy_gives x _) ?_)
           | (refine callG (fun hc => (l6Copy_gives x _)) ?_)
           | (refine callQG (fun hc => (l6Copy_gives x _)) ?_)); simp -implicitDefEqProofs only [← legB_spec, hb, push_cast, Nat.reduceEqDiff, Nat.reduceBEq, Nat.reduceBNe, Nat.reduceAdd, Nat.reduceMul, Nat.reduceLT, Nat.reduceLeDiff, Nat.reduceSub, reduceCtorEq, Int.reduceToNat, ↓reduceIte]))
    all_goals first
      | rfl
      | trace_state
end Go.Proofs.Ytmehbbepppjikaa
