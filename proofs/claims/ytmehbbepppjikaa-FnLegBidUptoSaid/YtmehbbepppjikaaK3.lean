/- Contracts of functions of the program (K3). -/
import Derived.Test.YtmehbbepppjikaaK2
import Derived.Test.YtmehbbepppjikaaFill

namespace Go.Proofs.Ytmehbbepppjikaa
open Go.Av
set_option maxRecDepth 10000
set_option linter.unusedSimpArgs false
set_option linter.unusedVariables false

theorem indexHold_gives (xs : List Hold) (f : FuncId) (caps : List D) (h : Hp) (p : Hold → Bool) (hp : ∀ x : Hold, Gives Try.prog f (x.d :: caps) h (.bool (p x))) (hc : ∀ c, c ∈ caps → Cl h.length c) :
    Gives Try.prog 152 [.slice (xs.map Hold.d) .no, .fn f caps] h (.int .i64 (idxV p xs)) := by
  refine meets_of [] mixed Try.func152 rfl (by kernel_rfl) (by kernel_rfl) (by rw [Try.ntmps152]; simp only [List.length_cons, List.length_nil]; omega) (fun hf => ?_)
  rw [Try.results152]
  have hl : xs.length ≤ 1073741824 := by simpa using slice_fit (hf (.slice (xs.map Hold.d) .no) (by simp))
  clear hf
  simp -implicitDefEqProofs only [push_cast, Nat.reduceEqDiff, Nat.reduceBEq, Nat.reduceBNe, Nat.reduceAdd, Nat.reduceMul, Nat.reduceLT, Nat.reduceLeDiff, Nat.reduceSub, reduceCtorEq, Int.reduceToNat, ↓reduceIte]
  refine ev_loop0 [] (fun k : Nat => [(0, .slice (xs.map Hold.d) .no), (1, .fn f caps), (7, .int .i64 xs.length), (8, .int .i64 k)]) (fun k => k ≤ xs.length ∧ ∀ i, i < k → p (xs.getD i default) = false) (fun k => xs.length - k) 0 trivial ⟨Nat.zero_le _, fun i hi => absurd hi (Nat.not_lt_zero i)⟩ ?_ ?_
  · refine ⟨rfl, [], ?_⟩
    simp -implicitDefEqProofs only [Int.natCast_add, Int.cast_ofNat_Int, List.length_nil, Nat.le_refl, WeakTo, tokSts, tokOks, List.append_cancel_left_eq, exists_eq_left', exists_eq_left, List.append_cancel_left_eq, List.take_length, ObCl, and_true, true_and, push_cast, Nat.reduceEqDiff, Nat.reduceBEq, Nat.reduceBNe, Nat.reduceAdd, Nat.reduceMul, Nat.reduceLT, Nat.reduceLeDiff, Nat.reduceSub, reduceCtorEq, Int.reduceToNat, ↓reduceIte]
    exact hc
  · intro k hk
    have hw : IntKind.i64.wrap ((k : Int) + 1) = k + 1 := wrap_id (by omega) (by omega)
    try simp -implicitDefEqProofs only [hw, push_cast, Nat.reduceEqDiff, Nat.reduceBEq, Nat.reduceBNe, Nat.reduceAdd, Nat.reduceMul, Nat.reduceLT, Nat.reduceLeDiff, Nat.reduceSub, reduceCtorEq, Int.reduceToNat, ↓reduceIte]
    repeat'
      (first
       | (refine uYes ?_; first | exact List.mem_cons_self | (simp only [List.mem_cons, List.not_mem_nil, or_false, true_or, or_true]; done))
       | (refine uNo (by kernel_rfl))
       | (refine flatMk ?_; kernel_rfl)
       | (refine And.intro ?_ ?_)
       | (intro hx)
       | ((first
           | (refine callGF ?_)
           | (refine callQGF ?_)
           | (refine skipG ?_)
           | (refine callS (hp (xs.getD k default)) ?_)
           | (refine callQ (hp (xs.getD k default)) ?_)
           | (refine callG (fun hc => (hp (xs.getD k default))) ?_)
           | (refine callQG (fun hc => (hp (xs.getD k default))) ?_)); simp -implicitDefEqProofs only [hw, push_cast, Nat.reduceEqDiff, Nat.reduceBEq, Nat.reduceBNe, Nat.reduceAdd, Nat.reduceMul, Nat.reduceLT, Nat.reduceLeDiff, Nat.reduceSub, reduceCtorEq, Int.reduceToNat, ↓reduceIte]))
    all_goals first
      | omega
      | (refine round_mk0 (k + 1) ⟨by omega, fun i hi => ?_⟩ (by omega) ⟨[], ?_⟩
         · by_cases e : i = k
           · exact e ▸ hx
           · exact hk.2 i (by omega)
         · simp -implicitDefEqProofs only [hw, Int.natCast_add, Int.cast_ofNat_Int, List.length_nil, Nat.le_refl, WeakTo, tokSts, tokOks, List.append_cancel_left_eq, exists_eq_left', exists_eq_left, List.append_cancel_left_eq, List.take_length, ObCl, and_true, true_and, push_cast, Nat.reduceEqDiff, Nat.reduceBEq, Nat.reduceBNe, Nat.reduceAdd, Nat.reduceMul, Nat.reduceLT, Nat.reduceLeDiff, Nat.reduceSub, reduceCtorEq, Int.reduceToNat, ↓reduceIte]
           exact hc)
      | (rw [idxV_at default (by omega) hk.2 hx])
      | (rw [idxV_none default (fun i hi => hk.2 i (by omega))])
theorem held1_gives (o : Hold) (n : Int) (r : Nat) (h : Hp) (hr : ob h r = .row [.int .i64 n]) : Gives Try.prog 153 [o.d, .ptr r 0] h (.bool (decide (o.txn = n))) := by
  refine meets_of [] mixed Try.func153 rfl (by kernel_rfl) (by kernel_rfl) (by rw [Try.ntmps153]; simp only [List.length_cons, List.length_nil]; omega) (fun hf => ?_)
  rw [Try.results153]
  have hr' := fun ls => ob_old (ls := ls) hr
  try simp -implicitDefEqProofs only [hr', push_cast, Nat.reduceEqDiff, Nat.reduceBEq, Nat.reduceBNe, Nat.reduceAdd, Nat.reduceMul, Nat.reduceLT, Nat.reduceLeDiff, Nat.reduceSub, reduceCtorEq, Int.reduceToNat, ↓reduceIte]
  repeat'
    (first
     | (refine uYes ?_; first | exact List.mem_cons_self | (simp only [List.mem_cons, List.not_mem_nil, or_false, true_or, or_true]; done))
     | (refine uNo (by kernel_rfl))
     | (refine flatMk ?_; kernel_rfl)
     | (refine And.intro ?_ ?_)
     | (intro hx)
     | ((first
         | (refine callGF ?_)
         | (refine callQGF ?_)
         | (refine skipG ?_)
         | (refine callS (in_gives ..) ?_)
         | (refine callQ (in_gives ..) ?_)
         | (refine callG (fun hc => (in_gives ..)) ?_)
         | (refine callQG (fun hc => (in_gives ..)) ?_)); simp -implicitDefEqProofs only [hr', push_cast, Nat.reduceEqDiff, Nat.reduceBEq, Nat.reduceBNe, Nat.reduceAdd, Nat.reduceMul, Nat.reduceLT, Nat.reduceLeDiff, Nat.reduceSub, reduceCtorEq, Int.reduceToNat, ↓reduceIte]))
def heldIdx (l : Leg) (n : Int) : Int := idxV (fun o => decide (o.txn = n)) l.holds
theorem held_gives (l : Leg) (n : Int) (h : Hp) : Gives Try.prog 140 [l.d, .int .i64 n] h (.int .i64 (heldIdx l n)) := by
  refine meets_of [] mixed Try.func140 rfl (by kernel_rfl) (by kernel_rfl) (by rw [Try.ntmps140]; simp only [List.length_cons, List.length_nil]; omega) (fun hf => ?_)
  rw [Try.results140]
  clear hf
  have hcl : ∀ x : Ob, ∀ c, c ∈ [D.ptr (h.length + 1) 0] → Cl (h ++ [x, .row [.int .i64 n]]).length c := fun x c hc => by
    rw [List.mem_singleton.1 hc, List.length_append]
    exact .ptr _ _ (by simp)
  try simp -implicitDefEqProofs only [push_cast, Nat.reduceEqDiff, Nat.reduceBEq, Nat.reduceBNe, Nat.reduceAdd, Nat.reduceMul, Nat.reduceLT, Nat.reduceLeDiff, Nat.reduceSub, reduceCtorEq, Int.reduceToNat, ↓reduceIte]
  repeat'
    (first
     | (refine uYes ?_; first | exact List.mem_cons_self | (simp only [List.mem_cons, List.not_mem_nil, or_false, true_or, or_true]; done))
     | (refine uNo (by kernel_rfl))
     | (refine flatMk ?_; kernel_rfl)
     | (refine And.intro ?_ ?_)
     | (intro hx)
     | ((first
         | (refine callGF ?_)
         | (refine callQGF ?_)
         | (refine skipG ?_)
         | (refine callS (indexHold_gives l.holds _ _ _ (fun o => decide (o.txn = n)) (fun o => held1_gives o n _ _ (by simp only [ob_app, ob_succ, ob_zero])) (hcl _)) ?_)
         | (refine callQ (indexHold_gives l.holds _ _ _ (fun o => decide (o.txn = n)) (fun o => held1_gives o n _ _ (by simp only [ob_app, ob_succ, ob_zero])) (hcl _)) ?_)
         | (refine callG (fun hc => (indexHold_gives l.holds _ _ _ (fun o => decide (o.txn = n)) (fun o => held1_gives o n _ _ (by simp only [ob_app, ob_succ, ob_zero])) (hcl _))) ?_)
         | (refine callQG (fun hc => (indexHold_gives l.holds _ _ _ (fun o => decide (o.txn = n)) (fun o => held1_gives o n _ _ (by simp only [ob_app, ob_succ, ob_zero])) (hcl _))) ?_)); simp -implicitDefEqProofs only [push_cast, Nat.reduceEqDiff, Nat.reduceBEq, Nat.reduceBNe, Nat.reduceAdd, Nat.reduceMul, Nat.reduceLT, Nat.reduceLeDiff, Nat.reduceSub, reduceCtorEq, Int.reduceToNat, ↓reduceIte]))
  all_goals first
    | rfl
    | omega

theorem take_mid {A L z : List D} {n : Nat} (hA : A.length = n) (hL : L.length ≤ 3) : (A ++ L).take n ++ (z ++ (A ++ L).drop (n + 3)) = A ++ z := by
  rw [List.take_append_of_le_length (by omega), List.take_of_length_le (by omega), List.drop_eq_nil_of_le (by rw [List.length_append]; omega), List.append_nil]

theorem deleteR (xs : List Hold) (k r cp : Nat) (h : Hp) (hr : ob h r = .row (xs.flatMap Hold.cs)) (hrl : r < h.length) (hk : k < xs.length) (hcp : xs.length ≤ cp) (hl : xs.length ≤ 1073741824) :
    Meets Try.prog 141 [.vec r true 3 0 xs.length cp, .int .i64 k, .int .i64 (k + 1)] h fun d' h' => d' = .vec r true 3 0 (k + (xs.length - (k + 1))) cp ∧ h' = h.set r (.row ((xs.eraseIdx k).flatMap Hold.cs ++ [.int .i64 0, .int .i64 0, .int .i64 0])) := by
  refine meets_of [] mixed Try.func141 rfl (by kernel_rfl) (by kernel_rfl) (by rw [Try.ntmps141]; simp only [List.length_cons, List.length_nil]; omega) (fun hf => ?_)
  rw [Try.results141]
  clear hf
  have hd : decide ((k : Int) = (k : Int) + 1) = false := decide_eq_false (by omega)
  have hp : ((k : Int) + 1).toNat = k + 1 := by omega
  have hrow : (xs.flatMap Hold.cs).length = xs.length * 3 := flatMap_length (f := Hold.cs) (m := 3) (fun _ => rfl) xs
  have hE : k + (xs.length - (k + 1)) + 1 = xs.length := by omega
  have hM : ((k : Int) + ((xs.length - (k + 1) : Nat) : Int)).toNat = k + (xs.length - (k + 1)) := by omega
  have h1 : xs.length - (k + (xs.length - (k + 1))) = 1 := by omega
  have hz : ∀ z : List D, zeros z 1 = z := fun z => by simp [zeros]
  have hset : ∀ x, ob (h.set r x) r = x := fun x => by simp [ob, List.getD_eq_getElem?_getD, hrl]
  have hs : xs.flatMap Hold.cs = (xs.take k).flatMap Hold.cs ++ (xs[k].cs ++ (xs.drop (k + 1)).flatMap Hold.cs) := by
    conv => lhs; rw [← List.take_append_drop k xs, List.drop_eq_getElem_cons hk]
    rw [List.flatMap_append, List.flatMap_cons]
  have hlk : ((xs.take k).flatMap Hold.cs).length = k * 3 := by rw [flatMap_length (f := Hold.cs) (m := 3) (fun _ => rfl), List.length_take]; congr 1; omega
  have hld : ((xs.drop (k + 1)).flatMap Hold.cs).length = (xs.length - (k + 1)) * 3 := by rw [flatMap_length (f := Hold.cs) (m := 3) (fun _ => rfl), List.length_drop]
  have hpart : rowPart h r 3 (k + 1) (xs.length - (k + 1)) = (xs.drop (k + 1)).flatMap Hold.cs := by
    simp only [rowPart, hr, rowOf]
    rw [hs, List.drop_append, List.drop_eq_nil_of_le (by rw [hlk]; omega), List.nil_append, hlk, show (k + 1) * 3 - k * 3 = 3 by omega, List.drop_append, List.drop_eq_nil_of_le (by exact Nat.le_refl _), List.nil_append, show xs[k].cs.length = 3 from rfl, Nat.sub_self, List.drop_zero, List.take_of_length_le (by omega)]
  have he : (xs.eraseIdx k).flatMap Hold.cs = (xs.take k).flatMap Hold.cs ++ (xs.drop (k + 1)).flatMap Hold.cs := by
    rw [List.eraseIdx_eq_take_drop_succ, List.flatMap_append]
  have ht : (xs.flatMap Hold.cs).take (k * 3) = (xs.take k).flatMap Hold.cs := by
    rw [hs, List.take_append_of_le_length (by omega), List.take_of_length_le (by omega)]
  try simp -implicitDefEqProofs only [hr, hd, hp, hrow, hpart, hld, hset, hM, h1, hz, ht, hlk, List.set_set, push_cast, Nat.reduceEqDiff, Nat.reduceBEq, Nat.reduceBNe, Nat.reduceAdd, Nat.reduceMul, Nat.reduceLT, Nat.reduceLeDiff, Nat.reduceSub, reduceCtorEq, Int.reduceToNat, ↓reduceIte]
  repeat'
    (first
     | (refine uYes ?_; first | exact List.mem_cons_self | (simp only [List.mem_cons, List.not_mem_nil, or_false, true_or, or_true]; done))
     | (refine uNo (by kernel_rfl))
     | (refine flatMk ?_; kernel_rfl)
     | (refine And.intro ?_ ?_)
     | (intro hx)
     | ((first
         | (refine callGF ?_)
         | (refine callQGF ?_)
         | (refine skipG ?_)
         | (refine inX_mk [r] (by kernel_rfl) (fun t ht => by rw [List.mem_singleton.1 ht]; exact hrl) ?_)
         | (refine callS (in_gives _ _ _ _) ?_)
         | (refine callQ (in_gives _ _ _ _) ?_)
         | (refine callG (fun hc => (in_gives _ _ _ _)) ?_)
         | (refine callQG (fun hc => (in_gives _ _ _ _)) ?_)); simp -implicitDefEqProofs only [hr, hd, hp, hrow, hpart, hld, hset, hM, h1, hz, ht, hlk, List.set_set, push_cast, Nat.reduceEqDiff, Nat.reduceBEq, Nat.reduceBNe, Nat.reduceAdd, Nat.reduceMul, Nat.reduceLT, Nat.reduceLeDiff, Nat.reduceSub, reduceCtorEq, Int.reduceToNat, ↓reduceIte]))
  all_goals first
    | omega
    | exact holds_c1 _ _ hx
    | (simp only [List.length_set]; omega)
    | skip
  refine back_set ?_ hrl (fun d hd => ?_)
  · rw [he, ← List.append_assoc ((xs.take k).flatMap Hold.cs)]
    exact take_mid (z := [.int .i64 0, .int .i64 0, .int .i64 0]) (by rw [List.length_append, hlk, hld, Nat.add_mul]) (by rw [List.length_drop, hrow]; omega)
  · rcases List.mem_append.1 hd with hd | hd
    · exact holds_cl _ _ _ hd
    · simp only [List.mem_cons, List.not_mem_nil, or_false] at hd
      rcases hd with rfl | rfl | rfl <;> exact .int _ _
end Go.Proofs.Ytmehbbepppjikaa
