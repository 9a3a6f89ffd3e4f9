/- Contracts of functions of the program (H3). -/
import Derived.Test.YtmehbbepppjikaaH2
import Derived.Test.YtmehbbepppjikaaD3

namespace Go.Proofs.Ytmehbbepppjikaa
open Go.Av
set_option maxRecDepth 10000
set_option maxHeartbeats 1000000
set_option linter.unusedSimpArgs false
set_option linter.unusedVariables false

theorem callQW {P : Program} {ops rest : List Oper} {dst : Option Tmp} {fr : Fr} {h : Hp} {K : St → Prop} {f : FuncId} {ys zs : List D} {d : D} (c : Gives P f zs h d) (hw : WkL ys zs) (k : evQs P ops rest ⟨putO fr dst d, h⟩ K) : CallQ P ops rest dst fr h K f ys := callQ_gives c hw k
theorem Leg.fc_cl (l : Leg) (n : Nat) : ∀ d, d ∈ l.fc → Cl n d := by
  intro d hd
  simp only [Leg.fc, List.mem_cons, List.not_mem_nil, or_false] at hd
  rcases hd with rfl | rfl | rfl | rfl | rfl | rfl | rfl | rfl | rfl | rfl
  · exact .str _
  · exact .str _
  · exact .str _
  · exact .int _ _
  · exact .int _ _
  · exact .int _ _
  all_goals exact .slice _ _ (fun _ _ e => nomatch e)
theorem back_fc {h : Hp} {r : Nat} (hrl : r < h.length) (l : Leg) (junk : Hp) : Back h (h.set r (.row l.fc) ++ junk) (h.set r (.row l.fc)) :=
  back_pre (by simp) (old_set (old_id h _) _ (l.fc_cl _))
theorem holdF_no (l : Leg) (o : Hold) (s : Int) (r : Nat) (h : Hp) (hr : ob h r = .row l.fc) (hrl : r < h.length) (hp : LegP l) (hc : canB l o s = false) :
    Gives Try.prog 106 [.ptr r 0, o.d, .int .i64 s] h (.bool false) := by
  obtain ⟨r1, r2, r3, r4, r5, r6, r7, r8, r9⟩ := rdf hrl
  have r4' := fun ls => (r4 ls).trans hr
  simp only [Leg.fc] at r4'
  have hC := fun g => can_gives l o s g hp
  rw [hc] at hC
  refine meets_of [] mixed Try.func106 rfl (by kernel_rfl) (by kernel_rfl) (by rw [Try.ntmps106]; simp only [List.length_cons, List.length_nil]; omega) (fun hf => ?_)
  rw [Try.results106]
  clear hf
  try simp -implicitDefEqProofs only [r4', push_cast, Nat.reduceEqDiff, Nat.reduceBEq, Nat.reduceBNe, Nat.reduceAdd, Nat.reduceMul, Nat.reduceLT, Nat.reduceLeDiff, Nat.reduceSub, reduceCtorEq, Int.reduceToNat, ↓reduceIte]
  repeat'
    (first
     | (refine uYes ?_; first | exact List.mem_cons_self | (simp only [List.mem_cons, List.not_mem_nil, or_false, true_or, or_true]; done))
     | (refine uNo (by kernel_rfl))
     | (refine flatMk ?_; kernel_rfl)
     | (refine And.intro ?_ ?_)
     | (intro hx)
     | ((first
         | (refine callGF ?_)
         | (refine callQGF ?_)
         | (refine skipG ?_)
         | (refine callQW (hC _) ⟨l.fd_wk, .refl _, .refl _, trivial⟩ ?_)); simp -implicitDefEqProofs only [r4', push_cast, Nat.reduceEqDiff, Nat.reduceBEq, Nat.reduceBNe, Nat.reduceAdd, Nat.reduceMul, Nat.reduceLT, Nat.reduceLeDiff, Nat.reduceSub, reduceCtorEq, Int.reduceToNat, ↓reduceIte]))
  all_goals first
    | omega
    | trace_state
theorem holdF_yes (l : Leg) (o : Hold) (s : Int) (r : Nat) (h : Hp) (hr : ob h r = .row l.fc) (hrl : r < h.length) (hp : LegP l) (hc : canB l o s = true) :
    Meets Try.prog 106 [.ptr r 0, o.d, .int .i64 s] h fun d' h' => d' = .bool true ∧ h' = h.set r (.row (holdL l o).fc) := by
  obtain ⟨r1, r2, r3, r4, r5, r6, r7, r8, r9⟩ := rdf hrl
  have r4' := fun ls => (r4 ls).trans hr
  simp only [Leg.fc] at r4'
  have hC := fun g => can_gives l o s g hp
  rw [hc] at hC
  have hll := hp.holds
  refine meets_of [] mixed Try.func106 rfl (by kernel_rfl) (by kernel_rfl) (by rw [Try.ntmps106]; simp only [List.length_cons, List.length_nil]; omega) (fun hf => ?_)
  rw [Try.results106]
  clear hf
  try simp -implicitDefEqProofs only [r4', push_cast, Nat.reduceEqDiff, Nat.reduceBEq, Nat.reduceBNe, Nat.reduceAdd, Nat.reduceMul, Nat.reduceLT, Nat.reduceLeDiff, Nat.reduceSub, reduceCtorEq, Int.reduceToNat, ↓reduceIte]
  repeat'
    (first
     | (refine uYes ?_; first | exact List.mem_cons_self | (simp only [List.mem_cons, List.not_mem_nil, or_false, true_or, or_true]; done))
     | (refine uNo (by kernel_rfl))
     | (refine flatMk ?_; kernel_rfl)
     | (refine And.intro ?_ ?_)
     | (intro hx)
     | ((first
         | (refine callGF ?_)
         | (refine callQGF ?_)
         | (refine skipG ?_)
         | (refine callQW (hC _) ⟨l.fd_wk, .refl _, .refl _, trivial⟩ ?_)); simp -implicitDefEqProofs only [r4', push_cast, Nat.reduceEqDiff, Nat.reduceBEq, Nat.reduceBNe, Nat.reduceAdd, Nat.reduceMul, Nat.reduceLT, Nat.reduceLeDiff, Nat.reduceSub, reduceCtorEq, Int.reduceToNat, ↓reduceIte]))
  all_goals try omega
  refine ev_loop [] (fun k : Nat => [(0, .ptr r 0), (2, .int .i64 s), (4, .ptr h.length 0), (7, .int .i64 k)])
    (fun _ => [.row o.cs]) (fun k => k ≤ l.holds.length ∧ ∀ i, i < k → (l.holds.getD i default).txn < o.txn) (fun k => l.holds.length - k) 0 trivial ⟨Nat.zero_le _, fun i hi => absurd hi (Nat.not_lt_zero i)⟩ ?_ ?_
  · refine ⟨1, by simp, by simp [tokSts], ?_⟩
    simp -implicitDefEqProofs only [Int.natCast_add, Int.cast_ofNat_Int, List.length_nil, Nat.le_refl, WeakTo, tokSts, tokOks, List.append_cancel_left_eq, exists_eq_left', exists_eq_left, List.append_cancel_left_eq, List.take_length, ObCl, and_true, true_and, push_cast, Nat.reduceEqDiff, Nat.reduceBEq, Nat.reduceBNe, Nat.reduceAdd, Nat.reduceMul, Nat.reduceLT, Nat.reduceLeDiff, Nat.reduceSub, reduceCtorEq, Int.reduceToNat, ↓reduceIte]
    omega
  · intro k hk
    have hw : IntKind.i64.wrap ((k : Int) + 1) = k + 1 := wrap_id (by omega) (by omega)
    try simp -implicitDefEqProofs only [hw, r4', lenMax, push_cast, Nat.reduceEqDiff, Nat.reduceBEq, Nat.reduceBNe, Nat.reduceAdd, Nat.reduceMul, Nat.reduceLT, Nat.reduceLeDiff, Nat.reduceSub, reduceCtorEq, Int.reduceToNat, ↓reduceIte]
    repeat'
      (first
       | (refine uYes ?_; first | exact List.mem_cons_self | (simp only [List.mem_cons, List.not_mem_nil, or_false, true_or, or_true]; done))
       | (refine uNo (by kernel_rfl))
       | (refine flatMk ?_; kernel_rfl)
       | (refine And.intro ?_ ?_)
       | (intro hx)
       | ((first
           | (refine inX_mk [] (by kernel_rfl) (by simp) ?_)
           | (refine callGF ?_)
           | (refine callQGF ?_)
           | (refine skipG ?_)
           | (refine callS (insert_gives l.holds o k _ hk.1 (by omega)) ?_)
           | (refine callQ (insert_gives l.holds o k _ hk.1 (by omega)) ?_)
           | (refine callG (fun hc => (insert_gives l.holds o k _ hk.1 (by omega))) ?_)
           | (refine callQG (fun hc => (insert_gives l.holds o k _ hk.1 (by omega))) ?_)
           | (refine callXG (fun _ => (insert_gives l.holds o k _ hk.1 (by omega))) ?_)
           | (refine callS (hclone_gives _ _) ?_)
           | (refine callQ (hclone_gives _ _) ?_)
           | (refine callG (fun hc => (hclone_gives _ _)) ?_)
           | (refine callQG (fun hc => (hclone_gives _ _)) ?_)
           | (refine callXG (fun _ => (hclone_gives _ _)) ?_)); simp -implicitDefEqProofs only [hw, r4', lenMax, push_cast, Nat.reduceEqDiff, Nat.reduceBEq, Nat.reduceBNe, Nat.reduceAdd, Nat.reduceMul, Nat.reduceLT, Nat.reduceLeDiff, Nat.reduceSub, reduceCtorEq, Int.reduceToNat, ↓reduceIte]))
    all_goals first
      | omega
      | (refine round_mk (k + 1) ⟨by omega, fun i hi => ?_⟩ (by omega) ?_
         · by_cases e : i = k
           · subst e; exact hx.2
           · exact hk.2 i (by omega)
         · simp -implicitDefEqProofs only [hw, Int.natCast_add, Int.cast_ofNat_Int, List.length_nil, Nat.le_refl, WeakTo, tokSts, tokOks, List.append_cancel_left_eq, exists_eq_left', exists_eq_left, List.append_cancel_left_eq, List.take_length, ObCl, and_true, true_and, push_cast, Nat.reduceEqDiff, Nat.reduceBEq, Nat.reduceBNe, Nat.reduceAdd, Nat.reduceMul, Nat.reduceLT, Nat.reduceLeDiff, Nat.reduceSub, reduceCtorEq, Int.reduceToNat, ↓reduceIte]
           omega)
      | (have e : placeN l o.txn = k := whileN_at default hk.1 (fun i hi => decide_eq_true (hk.2 i hi)) (fun hi => decide_eq_false (by omega))
         rw [r1, holdL, e]
         exact back_fc hrl { l with holds := l.holds.take k ++ o :: l.holds.drop k } _)
      | trace_state
end Go.Proofs.Ytmehbbepppjikaa
