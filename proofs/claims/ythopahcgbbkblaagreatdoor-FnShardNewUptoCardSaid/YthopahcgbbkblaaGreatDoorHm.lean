/- A new shard, by value: the reference, and the program's small functions. -/
import Derived.Test.YthopahcgbbkblaaGreatDoorGq
import Derived.Test.YthopahcgbbkblaaGreatDoorGv
import Derived.Test.YthopahcgbbkblaaGreatDoorGo
import Derived.Test.YthopahcgbbkblaaGreatDoorEs
import Derived.Test.YthopahcgbbkblaaGreatDoorEc

namespace Go.Proofs.YthopahcgbbkblaaGreatDoor
set_option linter.unusedSectionVars false
open Go.Av
variable [Av.Start]
set_option maxRecDepth 10000
set_option maxHeartbeats 1000000
set_option linter.unusedSimpArgs false
set_option linter.unusedVariables false

def busyL (l : Leg) : Bool := decide (0 < l.holds.length)
omit [Av.Start] in
theorem idxV_any {α : Type} {p : α → Bool} {xs : List α} : decide (0 ≤ idxV p xs) = xs.any p := by
  rw [idxV]
  split
  · rename_i h
    rw [h]
    exact decide_eq_true (by omega)
  · rename_i h
    rw [Bool.not_eq_true] at h
    rw [h]
    rfl
theorem containsLeg_gives (xs : List Leg) (f : FuncId) (caps : List D) (h : Hp) (p : Leg → Bool) (hp : ∀ x : Leg, Gives Tryz.prog f (x.d :: caps) h (.bool (p x))) (hc : ∀ c, c ∈ caps → Cl h.length c) :
    Gives Tryz.prog 37 [.slice (xs.map Leg.d) .no, .fn f caps] h (.bool (xs.any p)) := by
  have he := idxV_any (p := p) (xs := xs)
  refine meets_of [] mixed Tryz.func37 rfl (by kernel_rfl) (by kernel_rfl) (by rw [Tryz.ntmps37]; simp only [List.length_cons, List.length_nil]; omega) (fun hf => ?_)
  rw [Tryz.results37]
  try simp -implicitDefEqProofs only [he, push_cast, Nat.reduceEqDiff, Nat.reduceBEq, Nat.reduceBNe, Nat.reduceAdd, Nat.reduceMul, Nat.reduceLT, Nat.reduceLeDiff, Nat.reduceSub, reduceCtorEq, Int.reduceToNat, ↓reduceIte]
  repeat'
    (first
     | (refine uYes ?_; first | exact List.mem_cons_self | (simp only [List.mem_cons, List.not_mem_nil, or_false, true_or, or_true]; done))
     | (refine uNo (by kernel_rfl))
     | (refine flatMk ?_; kernel_rfl)
     | (refine And.intro ?_ ?_)
     | (intro hx)
     | ((first
         | (refine callGF ?_)
         | (refine callQGF ?_)
         | (refine skipG ?_)
         | (refine callS (indexLeg_gives xs _ _ _ p hp hc) ?_)
         | (refine callQ (indexLeg_gives xs _ _ _ p hp hc) ?_)
         | (refine callG (fun hc => (indexLeg_gives xs _ _ _ p hp hc)) ?_)
         | (refine callQG (fun hc => (indexLeg_gives xs _ _ _ p hp hc)) ?_)); simp -implicitDefEqProofs only [he, push_cast, Nat.reduceEqDiff, Nat.reduceBEq, Nat.reduceBNe, Nat.reduceAdd, Nat.reduceMul, Nat.reduceLT, Nat.reduceLeDiff, Nat.reduceSub, reduceCtorEq, Int.reduceToNat, ↓reduceIte]))
theorem heldAny1_gives (l : Leg) (h : Hp) : Gives Tryz.prog 38 [l.d] h (.bool (busyL l)) := by
  refine meets_of [] mixed Tryz.func38 rfl (by kernel_rfl) (by kernel_rfl) (by rw [Tryz.ntmps38]; simp only [List.length_cons, List.length_nil]; omega) (fun hf => ?_)
  rw [Tryz.results38]
  clear hf
  have hb : decide (0 < (l.holds.length : Int)) = busyL l := by
    rw [busyL]
    exact decide_eq_decide.2 (by omega)
  try simp -implicitDefEqProofs only [hb, Leg.d, Leg.cs, push_cast, Nat.reduceEqDiff, Nat.reduceBEq, Nat.reduceBNe, Nat.reduceAdd, Nat.reduceMul, Nat.reduceLT, Nat.reduceLeDiff, Nat.reduceSub, reduceCtorEq, Int.reduceToNat, ↓reduceIte]
  repeat'
    (first
     | (refine uYes ?_; first | exact List.mem_cons_self | (simp only [List.mem_cons, List.not_mem_nil, or_false, true_or, or_true]; done))
     | (refine uNo (by kernel_rfl))
     | (refine flatMk ?_; kernel_rfl)
     | (refine And.intro ?_ ?_)
     | (intro hx)
     | ((first
         | (refine callGF ?_)
         | (refine callQGF ?_)
         | (refine skipG ?_)
         | (refine callS (in_gives ..) ?_)
         | (refine callQ (in_gives ..) ?_)
         | (refine callG (fun hc => (in_gives ..)) ?_)
         | (refine callQG (fun hc => (in_gives ..)) ?_)); simp -implicitDefEqProofs only [hb, Leg.d, Leg.cs, push_cast, Nat.reduceEqDiff, Nat.reduceBEq, Nat.reduceBNe, Nat.reduceAdd, Nat.reduceMul, Nat.reduceLT, Nat.reduceLeDiff, Nat.reduceSub, reduceCtorEq, Int.reduceToNat, ↓reduceIte]))
theorem heldAny_gives (net : List Leg) (h : Hp) : Gives Tryz.prog 17 [.slice (net.map Leg.d) .no] h (.bool (net.any busyL)) := by
  refine meets_of [] mixed Tryz.func17 rfl (by kernel_rfl) (by kernel_rfl) (by rw [Tryz.ntmps17]; simp only [List.length_cons, List.length_nil]; omega) (fun hf => ?_)
  rw [Tryz.results17]
  clear hf
  try simp -implicitDefEqProofs only [push_cast, Nat.reduceEqDiff, Nat.reduceBEq, Nat.reduceBNe, Nat.reduceAdd, Nat.reduceMul, Nat.reduceLT, Nat.reduceLeDiff, Nat.reduceSub, reduceCtorEq, Int.reduceToNat, ↓reduceIte]
  repeat'
    (first
     | (refine uYes ?_; first | exact List.mem_cons_self | (simp only [List.mem_cons, List.not_mem_nil, or_false, true_or, or_true]; done))
     | (refine uNo (by kernel_rfl))
     | (refine flatMk ?_; kernel_rfl)
     | (refine And.intro ?_ ?_)
     | (intro hx)
     | ((first
         | (refine callGF ?_)
         | (refine callQGF ?_)
         | (refine skipG ?_)
         | (refine callS (containsLeg_gives net _ [] _ busyL (fun l => heldAny1_gives l _) (fun c hc => nomatch hc)) ?_)
         | (refine callQ (containsLeg_gives net _ [] _ busyL (fun l => heldAny1_gives l _) (fun c hc => nomatch hc)) ?_)
         | (refine callG (fun hc => (containsLeg_gives net _ [] _ busyL (fun l => heldAny1_gives l _) (fun c hc => nomatch hc))) ?_)
         | (refine callQG (fun hc => (containsLeg_gives net _ [] _ busyL (fun l => heldAny1_gives l _) (fun c hc => nomatch hc))) ?_)); simp -implicitDefEqProofs only [push_cast, Nat.reduceEqDiff, Nat.reduceBEq, Nat.reduceBNe, Nat.reduceAdd, Nat.reduceMul, Nat.reduceLT, Nat.reduceLeDiff, Nat.reduceSub, reduceCtorEq, Int.reduceToNat, ↓reduceIte]))
theorem isShard_gives (n : Int) (h : Hp) : Gives Tryz.prog 15 [.int .i64 n] h (.bool (inB n 1 2)) := by
  refine meets_of [] mixed Tryz.func15 rfl (by kernel_rfl) (by kernel_rfl) (by rw [Tryz.ntmps15]; simp only [List.length_cons, List.length_nil]; omega) (fun hf => ?_)
  rw [Tryz.results15]
  clear hf
  try simp -implicitDefEqProofs only [push_cast, Nat.reduceEqDiff, Nat.reduceBEq, Nat.reduceBNe, Nat.reduceAdd, Nat.reduceMul, Nat.reduceLT, Nat.reduceLeDiff, Nat.reduceSub, reduceCtorEq, Int.reduceToNat, ↓reduceIte]
  repeat'
    (first
     | (refine uYes ?_; first | exact List.mem_cons_self | (simp only [List.mem_cons, List.not_mem_nil, or_false, true_or, or_true]; done))
     | (refine uNo (by kernel_rfl))
     | (refine flatMk ?_; kernel_rfl)
     | (refine And.intro ?_ ?_)
     | (intro hx)
     | ((first
         | (refine callGF ?_)
         | (refine callQGF ?_)
         | (refine skipG ?_)
         | (refine callS (in_gives _ _ _ _) ?_)
         | (refine callQ (in_gives _ _ _ _) ?_)
         | (refine callG (fun hc => (in_gives _ _ _ _)) ?_)
         | (refine callQG (fun hc => (in_gives _ _ _ _)) ?_)); simp -implicitDefEqProofs only [push_cast, Nat.reduceEqDiff, Nat.reduceBEq, Nat.reduceBNe, Nat.reduceAdd, Nat.reduceMul, Nat.reduceLT, Nat.reduceLeDiff, Nat.reduceSub, reduceCtorEq, Int.reduceToNat, ↓reduceIte]))
def baseB (net : List Leg) : Bool := netB net && !net.any busyL
omit [Av.Start] in
theorem any_take_succ {xs : List Leg} {p : Leg → Bool} {k : Nat} (hk : k < xs.length) : (xs.take (k + 1)).any p = ((xs.take k).any p || p (xs.getD k default)) := by
  rw [take_succ_get hk, List.any_append]
  simp
omit [Av.Start] in
theorem any_at {xs : List Leg} {p : Leg → Bool} {k : Nat} (hk : k < xs.length) (h : p (xs.getD k default) = true) : xs.any p = true := by
  refine List.any_eq_true.2 ⟨xs.getD k default, ?_, h⟩
  rw [List.getD_eq_getElem?_getD, List.getElem?_eq_getElem hk]
  exact List.getElem_mem hk
theorem l10Base_gives (net : List Leg) (h : Hp) : Gives Tryz.prog 21 [.slice (net.map Leg.d) .no] h (.bool (baseB net)) := by
  refine meets_of [] mixed Tryz.func21 rfl (by kernel_rfl) (by kernel_rfl) (by rw [Tryz.ntmps21]; simp only [List.length_cons, List.length_nil]; omega) (fun hf => ?_)
  rw [Tryz.results21]
  have hl : net.length ≤ 1073741824 := by simpa using slice_fit (hf (.slice (net.map Leg.d) .no) (by simp))
  clear hf
  simp -implicitDefEqProofs only [push_cast, Nat.reduceEqDiff, Nat.reduceBEq, Nat.reduceBNe, Nat.reduceAdd, Nat.reduceMul, Nat.reduceLT, Nat.reduceLeDiff, Nat.reduceSub, reduceCtorEq, Int.reduceToNat, ↓reduceIte]
  refine ev_loop0 [] (fun k : Nat => [(0, .slice (net.map Leg.d) .no), (3, .int .i64 k)]) (fun k => k ≤ net.length ∧ (net.take k).any busyL = false) (fun k => net.length - k) 0 trivial ⟨Nat.zero_le _, rfl⟩ ?_ ?_
  · refine ⟨rfl, [], ?_⟩
    simp -implicitDefEqProofs only [Int.natCast_add, Int.cast_ofNat_Int, List.length_nil, Nat.le_refl, WeakTo, tokSts, tokOks, List.append_cancel_left_eq, exists_eq_left', exists_eq_left, List.append_cancel_left_eq, List.take_length, ObCl, and_true, true_and, push_cast, Nat.reduceEqDiff, Nat.reduceBEq, Nat.reduceBNe, Nat.reduceAdd, Nat.reduceMul, Nat.reduceLT, Nat.reduceLeDiff, Nat.reduceSub, reduceCtorEq, Int.reduceToNat, ↓reduceIte]
  · rintro k ⟨hk, ha⟩
    have hw : IntKind.i64.wrap ((k : Int) + 1) = k + 1 := wrap_id (by omega) (by omega)
    rcases Nat.lt_or_ge k net.length with hlt | hge
    · have hL := leg_at hlt
      have hs := any_take_succ (p := busyL) hlt
      rw [ha, Bool.false_or] at hs
      have hy : busyL (net.getD k default) = decide (0 < (net.getD k default).holds.length) := rfl
      have ht := fun e => any_at (p := busyL) hlt e
      generalize net.getD k default = l at hL hs hy ht
      try simp -implicitDefEqProofs only [hw, hL, Leg.d, Leg.cs, push_cast, Nat.reduceEqDiff, Nat.reduceBEq, Nat.reduceBNe, Nat.reduceAdd, Nat.reduceMul, Nat.reduceLT, Nat.reduceLeDiff, Nat.reduceSub, reduceCtorEq, Int.reduceToNat, ↓reduceIte]
      repeat'
        (first
         | (refine uYes ?_; first | exact List.mem_cons_self | (simp only [List.mem_cons, List.not_mem_nil, or_false, true_or, or_true]; done))
         | (refine uNo (by kernel_rfl))
         | (refine flatMk ?_; kernel_rfl)
         | (refine And.intro ?_ ?_)
         | (intro hx)
         | ((first
             | (refine callGF ?_)
             | (refine callQGF ?_)
             | (refine skipG ?_)
             | (refine callS (specNetOk_gives net _) ?_)
             | (refine callQ (specNetOk_gives net _) ?_)
             | (refine callG (fun hc => (specNetOk_gives net _)) ?_)
             | (refine callQG (fun hc => (specNetOk_gives net _)) ?_)); simp -implicitDefEqProofs only [hw, hL, Leg.d, Leg.cs, push_cast, Nat.reduceEqDiff, Nat.reduceBEq, Nat.reduceBNe, Nat.reduceAdd, Nat.reduceMul, Nat.reduceLT, Nat.reduceLeDiff, Nat.reduceSub, reduceCtorEq, Int.reduceToNat, ↓reduceIte]))
      all_goals first
        | omega
        | (refine round_mk0 (k + 1) ⟨by omega, by rw [hs, hy]; exact decide_eq_false (by omega)⟩ (by omega) ⟨[], ?_⟩
           simp -implicitDefEqProofs only [hw, Int.natCast_add, Int.cast_ofNat_Int, List.length_nil, Nat.le_refl, WeakTo, tokSts, tokOks, List.append_cancel_left_eq, exists_eq_left', exists_eq_left, List.append_cancel_left_eq, List.take_length, ObCl, and_true, true_and, push_cast, Nat.reduceEqDiff, Nat.reduceBEq, Nat.reduceBNe, Nat.reduceAdd, Nat.reduceMul, Nat.reduceLT, Nat.reduceLeDiff, Nat.reduceSub, reduceCtorEq, Int.reduceToNat, ↓reduceIte])
        | (rw [baseB, ht (by rw [hy]; exact decide_eq_true (by omega))]
           simp)
        | trace_state
    · obtain rfl : k = net.length := by omega
      rw [List.take_length] at ha
      try simp -implicitDefEqProofs only [hw, push_cast, Nat.reduceEqDiff, Nat.reduceBEq, Nat.reduceBNe, Nat.reduceAdd, Nat.reduceMul, Nat.reduceLT, Nat.reduceLeDiff, Nat.reduceSub, reduceCtorEq, Int.reduceToNat, ↓reduceIte]
      repeat'
        (first
         | (refine uYes ?_; first | exact List.mem_cons_self | (simp only [List.mem_cons, List.not_mem_nil, or_false, true_or, or_true]; done))
         | (refine uNo (by kernel_rfl))
         | (refine flatMk ?_; kernel_rfl)
         | (refine And.intro ?_ ?_)
         | (intro hx)
         | ((first
             | (refine callGF ?_)
             | (refine callQGF ?_)
             | (refine skipG ?_)
             | (refine callS (specNetOk_gives net _) ?_)
             | (refine callQ (specNetOk_gives net _) ?_)
             | (refine callG (fun hc => (specNetOk_gives net _)) ?_)
             | (refine callQG (fun hc => (specNetOk_gives net _)) ?_)); simp -implicitDefEqProofs only [hw, push_cast, Nat.reduceEqDiff, Nat.reduceBEq, Nat.reduceBNe, Nat.reduceAdd, Nat.reduceMul, Nat.reduceLT, Nat.reduceLeDiff, Nat.reduceSub, reduceCtorEq, Int.reduceToNat, ↓reduceIte]))
      all_goals first
        | omega
        | (rw [baseB, ha]; simp; done)
        | trace_state
theorem l6CopyAll_gives (net : List Leg) (h : Hp) (hn : net.length ≤ 6) : Gives Tryz.prog 22 [.slice (net.map Leg.d) .no] h (.slice (net.map Leg.d) .no) := by
  refine meets_of [] mixed Tryz.func22 rfl (by kernel_rfl) (by kernel_rfl) (by rw [Tryz.ntmps22]; simp only [List.length_cons, List.length_nil]; omega) (fun hf => ?_)
  rw [Tryz.results22]
  clear hf
  try simp -implicitDefEqProofs only [lenMax, push_cast, Nat.reduceEqDiff, Nat.reduceBEq, Nat.reduceBNe, Nat.reduceAdd, Nat.reduceMul, Nat.reduceLT, Nat.reduceLeDiff, Nat.reduceSub, reduceCtorEq, Int.reduceToNat, ↓reduceIte]
  repeat'
    (first
     | (refine uYes ?_; first | exact List.mem_cons_self | (simp only [List.mem_cons, List.not_mem_nil, or_false, true_or, or_true]; done))
     | (refine uNo (by kernel_rfl))
     | (refine flatMk ?_; kernel_rfl)
     | (refine And.intro ?_ ?_)
     | (intro hx)
     | ((first
         | (refine callGF ?_)
         | (refine callQGF ?_)
         | (refine skipG ?_)
         | (refine callS (in_gives ..) ?_)
         | (refine callQ (in_gives ..) ?_)
         | (refine callG (fun hc => (in_gives ..)) ?_)
         | (refine callQG (fun hc => (in_gives ..)) ?_)); simp -implicitDefEqProofs only [lenMax, push_cast, Nat.reduceEqDiff, Nat.reduceBEq, Nat.reduceBNe, Nat.reduceAdd, Nat.reduceMul, Nat.reduceLT, Nat.reduceLeDiff, Nat.reduceSub, reduceCtorEq, Int.reduceToNat, ↓reduceIte]))
  refine ev_loopB [(3, 10)] (fun k : Nat => [(0, .slice (net.map Leg.d) .no), (3, .slice ((net.take k).map Leg.d) (.buf h.length 10)), (4, .int .i64 k)])
    (fun k => [.buf (k * 10)]) (fun k => k ≤ net.length) (fun k => net.length - k) 0 ?_ (Nat.zero_le _) ?_ ?_
  · simp -implicitDefEqProofs only [tokOk, Int.natCast_add, Int.cast_ofNat_Int, List.length_nil, Nat.le_refl, WeakTo, tokSts, tokOks, List.append_cancel_left_eq, exists_eq_left', exists_eq_left, List.append_cancel_left_eq, List.take_length, ObCl, and_true, true_and, push_cast, Nat.reduceEqDiff, Nat.reduceBEq, Nat.reduceBNe, Nat.reduceAdd, Nat.reduceMul, Nat.reduceLT, Nat.reduceLeDiff, Nat.reduceSub, reduceCtorEq, Int.reduceToNat, ↓reduceIte]
  · refine ⟨1, by simp, by simp -implicitDefEqProofs only [tokSt, Int.natCast_add, Int.cast_ofNat_Int, List.length_nil, Nat.le_refl, WeakTo, tokSts, tokOks, List.append_cancel_left_eq, exists_eq_left', exists_eq_left, List.append_cancel_left_eq, List.take_length, ObCl, and_true, true_and, push_cast, Nat.reduceEqDiff, Nat.reduceBEq, Nat.reduceBNe, Nat.reduceAdd, Nat.reduceMul, Nat.reduceLT, Nat.reduceLeDiff, Nat.reduceSub, reduceCtorEq, Int.reduceToNat, ↓reduceIte], ?_⟩
    simp -implicitDefEqProofs only [tokSt, Int.natCast_add, Int.cast_ofNat_Int, List.length_nil, Nat.le_refl, WeakTo, tokSts, tokOks, List.append_cancel_left_eq, exists_eq_left', exists_eq_left, List.append_cancel_left_eq, List.take_length, ObCl, and_true, true_and, push_cast, Nat.reduceEqDiff, Nat.reduceBEq, Nat.reduceBNe, Nat.reduceAdd, Nat.reduceMul, Nat.reduceLT, Nat.reduceLeDiff, Nat.reduceSub, reduceCtorEq, Int.reduceToNat, ↓reduceIte]
  · intro k hk
    have hw : IntKind.i64.wrap ((k : Int) + 1) = k + 1 := wrap_id (by omega) (by omega)
    have hmin : min k net.length = k := by omega
    rcases Nat.lt_or_ge k net.length with hlt | hge
    · have hL := leg_at hlt
      have ht := take_succ_get hlt
      try simp -implicitDefEqProofs only [hw, hL, hmin, lenMax, push_cast, Nat.reduceEqDiff, Nat.reduceBEq, Nat.reduceBNe, Nat.reduceAdd, Nat.reduceMul, Nat.reduceLT, Nat.reduceLeDiff, Nat.reduceSub, reduceCtorEq, Int.reduceToNat, ↓reduceIte]
      repeat'
        (first
         | (refine uYes ?_; first | exact List.mem_cons_self | (simp only [List.mem_cons, List.not_mem_nil, or_false, true_or, or_true]; done))
         | (refine uNo (by kernel_rfl))
         | (refine flatMk ?_; kernel_rfl)
         | (refine And.intro ?_ ?_)
         | (intro hx)
         | ((first
             | (refine callGF ?_)
             | (refine callQGF ?_)
             | (refine skipG ?_)
             | (refine callS (l6Copy_gives (net.getD k default) _) ?_)
             | (refine callQ (l6Copy_gives (net.getD k default) _) ?_)
             | (refine callG (fun hc => (l6Copy_gives (net.getD k default) _)) ?_)
             | (refine callQG (fun hc => (l6Copy_gives (net.getD k default) _)) ?_)); simp -implicitDefEqProofs only [hw, hL, hmin, lenMax, push_cast, Nat.reduceEqDiff, Nat.reduceBEq, Nat.reduceBNe, Nat.reduceAdd, Nat.reduceMul, Nat.reduceLT, Nat.reduceLeDiff, Nat.reduceSub, reduceCtorEq, Int.reduceToNat, ↓reduceIte]))
      all_goals first
        | omega
        | (refine round_mk (k + 1) (by omega) (by omega) ?_
           simp -implicitDefEqProofs only [ht, List.map_append, List.map_cons, List.map_nil, hw, hmin, Int.natCast_add, Int.cast_ofNat_Int, List.length_nil, Nat.le_refl, WeakTo, tokSts, tokOks, List.append_cancel_left_eq, exists_eq_left', exists_eq_left, List.append_cancel_left_eq, List.take_length, ObCl, and_true, true_and, push_cast, Nat.reduceEqDiff, Nat.reduceBEq, Nat.reduceBNe, Nat.reduceAdd, Nat.reduceMul, Nat.reduceLT, Nat.reduceLeDiff, Nat.reduceSub, reduceCtorEq, Int.reduceToNat, ↓reduceIte]
           done)
        | trace_state
    · obtain rfl : k = net.length := by omega
      try simp -implicitDefEqProofs only [hw, hmin, List.take_length, lenMax, push_cast, Nat.reduceEqDiff, Nat.reduceBEq, Nat.reduceBNe, Nat.reduceAdd, Nat.reduceMul, Nat.reduceLT, Nat.reduceLeDiff, Nat.reduceSub, reduceCtorEq, Int.reduceToNat, ↓reduceIte]
      repeat'
        (first
         | (refine uYes ?_; first | exact List.mem_cons_self | (simp only [List.mem_cons, List.not_mem_nil, or_false, true_or, or_true]; done))
         | (refine uNo (by kernel_rfl))
         | (refine flatMk ?_; kernel_rfl)
         | (refine And.intro ?_ ?_)
         | (intro hx)
         | ((first
             | (refine callGF ?_)
             | (refine callQGF ?_)
             | (refine skipG ?_)
             | (refine callS (l6Copy_gives default _) ?_)
             | (refine callQ (l6Copy_gives default _) ?_)
             | (refine callG (fun hc => (l6Copy_gives default _)) ?_)
             | (refine callQG (fun hc => (l6Copy_gives default _)) ?_)); simp -implicitDefEqProofs only [hw, hmin, List.take_length, lenMax, push_cast, Nat.reduceEqDiff, Nat.reduceBEq, Nat.reduceBNe, Nat.reduceAdd, Nat.reduceMul, Nat.reduceLT, Nat.reduceLeDiff, Nat.reduceSub, reduceCtorEq, Int.reduceToNat, ↓reduceIte]))
      all_goals first
        | omega
        | trace_state
def shD (id : Int) (net : List Leg) (up : Bool) : D := .agg [.int .i64 id, .slice (net.map Leg.d) .no, .str [], .bool up, .slice (net.map Leg.d) .no, .slice [] .no]
def shB (id : Int) (net : List Leg) : Bool := inB id 1 2 && baseB net
/-- the value of ShardNew -/
def shV (id : Int) (net : List Leg) : D := if shB id net then shD id net true else shD 0 [] false
theorem specShardNew_gives (id : Int) (net : List Leg) (h : Hp) : Gives Tryz.prog 7 [.int .i64 id, .slice (net.map Leg.d) .no] h (shV id net) := by
  have hb : baseB net = true → net.length ≤ 6 := fun e => by
    rw [baseB, Bool.and_eq_true] at e
    exact netB_len e.1
  rw [shV, shB]
  refine meets_of [] mixed Tryz.func7 rfl (by kernel_rfl) (by kernel_rfl) (by rw [Tryz.ntmps7]; simp only [List.length_cons, List.length_nil]; omega) (fun hf => ?_)
  rw [Tryz.results7]
  clear hf
  cases h1 : inB id 1 2 with
  | false =>
    try simp -implicitDefEqProofs only [h1, shD, push_cast, Nat.reduceEqDiff, Nat.reduceBEq, Nat.reduceBNe, Nat.reduceAdd, Nat.reduceMul, Nat.reduceLT, Nat.reduceLeDiff, Nat.reduceSub, reduceCtorEq, Int.reduceToNat, ↓reduceIte]
    repeat'
      (first
       | (refine uYes ?_; first | exact List.mem_cons_self | (simp only [List.mem_cons, List.not_mem_nil, or_false, true_or, or_true]; done))
       | (refine uNo (by kernel_rfl))
       | (refine flatMk ?_; kernel_rfl)
       | (refine And.intro ?_ ?_)
       | (intro hx)
       | ((first
           | (refine callGF ?_)
           | (refine callQGF ?_)
           | (refine skipG ?_)
           | (refine callS (l1In_gives id 1 2 _) ?_)
           | (refine callQ (l1In_gives id 1 2 _) ?_)
           | (refine callG (fun hc => (l1In_gives id 1 2 _)) ?_)
           | (refine callQG (fun hc => (l1In_gives id 1 2 _)) ?_)); simp -implicitDefEqProofs only [h1, shD, push_cast, Nat.reduceEqDiff, Nat.reduceBEq, Nat.reduceBNe, Nat.reduceAdd, Nat.reduceMul, Nat.reduceLT, Nat.reduceLeDiff, Nat.reduceSub, reduceCtorEq, Int.reduceToNat, ↓reduceIte]))
    all_goals first
      | trace_state
  | true =>
    cases h2 : baseB net with
    | false =>
      try simp -implicitDefEqProofs only [h1, h2, shD, push_cast, Nat.reduceEqDiff, Nat.reduceBEq, Nat.reduceBNe, Nat.reduceAdd, Nat.reduceMul, Nat.reduceLT, Nat.reduceLeDiff, Nat.reduceSub, reduceCtorEq, Int.reduceToNat, ↓reduceIte]
      repeat'
        (first
         | (refine uYes ?_; first | exact List.mem_cons_self | (simp only [List.mem_cons, List.not_mem_nil, or_false, true_or, or_true]; done))
         | (refine uNo (by kernel_rfl))
         | (refine flatMk ?_; kernel_rfl)
         | (refine And.intro ?_ ?_)
         | (intro hx)
         | ((first
             | (refine callGF ?_)
             | (refine callQGF ?_)
             | (refine skipG ?_)
             | (refine callS (l1In_gives id 1 2 _) ?_)
             | (refine callQ (l1In_gives id 1 2 _) ?_)
             | (refine callG (fun hc => (l1In_gives id 1 2 _)) ?_)
             | (refine callQG (fun hc => (l1In_gives id 1 2 _)) ?_)
             | (refine callS (l10Base_gives net _) ?_)
             | (refine callQ (l10Base_gives net _) ?_)
             | (refine callG (fun hc => (l10Base_gives net _)) ?_)
             | (refine callQG (fun hc => (l10Base_gives net _)) ?_)); simp -implicitDefEqProofs only [h1, h2, shD, push_cast, Nat.reduceEqDiff, Nat.reduceBEq, Nat.reduceBNe, Nat.reduceAdd, Nat.reduceMul, Nat.reduceLT, Nat.reduceLeDiff, Nat.reduceSub, reduceCtorEq, Int.reduceToNat, ↓reduceIte]))
      all_goals first
        | trace_state
    | true =>
      have hn := hb h2
      try simp -implicitDefEqProofs only [h1, h2, shD, push_cast, Nat.reduceEqDiff, Nat.reduceBEq, Nat.reduceBNe, Nat.reduceAdd, Nat.reduceMul, Nat.reduceLT, Nat.reduceLeDiff, Nat.reduceSub, reduceCtorEq, Int.reduceToNat, ↓reduceIte]
      repeat'
        (first
         | (refine uYes ?_; first | exact List.mem_cons_self | (simp only [List.mem_cons, List.not_mem_nil, or_false, true_or, or_true]; done))
         | (refine uNo (by kernel_rfl))
         | (refine flatMk ?_; kernel_rfl)
         | (refine And.intro ?_ ?_)
         | (intro hx)
         | ((first
             | (refine callGF ?_)
             | (refine callQGF ?_)
             | (refine skipG ?_)
             | (refine callS (l1In_gives id 1 2 _) ?_)
             | (refine callQ (l1In_gives id 1 2 _) ?_)
             | (refine callG (fun hc => (l1In_gives id 1 2 _)) ?_)
             | (refine callQG (fun hc => (l1In_gives id 1 2 _)) ?_)
             | (refine callS (l10Base_gives net _) ?_)
             | (refine callQ (l10Base_gives net _) ?_)
             | (refine callG (fun hc => (l10Base_gives net _)) ?_)
             | (refine callQG (fun hc => (l10Base_gives net _)) ?_)
             | (refine callS (l6CopyAll_gives net _ hn) ?_)
             | (refine callQ (l6CopyAll_gives net _ hn) ?_)
             | (refine callG (fun hc => (l6CopyAll_gives net _ hn)) ?_)
             | (refine callQG (fun hc => (l6CopyAll_gives net _ hn)) ?_)); simp -implicitDefEqProofs only [h1, h2, shD, push_cast, Nat.reduceEqDiff, Nat.reduceBEq, Nat.reduceBNe, Nat.reduceAdd, Nat.reduceMul, Nat.reduceLT, Nat.reduceLeDiff, Nat.reduceSub, reduceCtorEq, Int.reduceToNat, ↓reduceIte]))
      all_goals first
        | trace_state
theorem implShardNew_bad (id : Int) (net : List Leg) (h : Hp) (hb : shB id net = false) : Gives Tryz.prog 5 [.int .i64 id, .slice (net.map Leg.d) .no] h (shD 0 [] false) := by
  rw [shB, baseB] at hb
  refine meets_of [] mixed Tryz.func5 rfl (by kernel_rfl) (by kernel_rfl) (by rw [Tryz.ntmps5]; simp only [List.length_cons, List.length_nil]; omega) (fun hf => ?_)
  rw [Tryz.results5]
  clear hf
  cases h1 : inB id 1 2 with
  | false =>
    try simp -implicitDefEqProofs only [h1, shD, push_cast, Nat.reduceEqDiff, Nat.reduceBEq, Nat.reduceBNe, Nat.reduceAdd, Nat.reduceMul, Nat.reduceLT, Nat.reduceLeDiff, Nat.reduceSub, reduceCtorEq, Int.reduceToNat, ↓reduceIte]
    repeat'
      (first
       | (refine uYes ?_; first | exact List.mem_cons_self | (simp only [List.mem_cons, List.not_mem_nil, or_false, true_or, or_true]; done))
       | (refine uNo (by kernel_rfl))
       | (refine flatMk ?_; kernel_rfl)
       | (refine And.intro ?_ ?_)
       | (intro hx)
       | ((first
           | (refine callGF ?_)
           | (refine callQGF ?_)
           | (refine skipG ?_)
           | (refine callS (isShard_gives id _) ?_)
           | (refine callQ (isShard_gives id _) ?_)
           | (refine callG (fun hc => (isShard_gives id _)) ?_)
           | (refine callQG (fun hc => (isShard_gives id _)) ?_)); simp -implicitDefEqProofs only [h1, shD, push_cast, Nat.reduceEqDiff, Nat.reduceBEq, Nat.reduceBNe, Nat.reduceAdd, Nat.reduceMul, Nat.reduceLT, Nat.reduceLeDiff, Nat.reduceSub, reduceCtorEq, Int.reduceToNat, ↓reduceIte]))
    all_goals first
      | trace_state
  | true =>
    cases h2 : netB net with
    | false =>
      try simp -implicitDefEqProofs only [h1, h2, shD, push_cast, Nat.reduceEqDiff, Nat.reduceBEq, Nat.reduceBNe, Nat.reduceAdd, Nat.reduceMul, Nat.reduceLT, Nat.reduceLeDiff, Nat.reduceSub, reduceCtorEq, Int.reduceToNat, ↓reduceIte]
      repeat'
        (first
         | (refine uYes ?_; first | exact List.mem_cons_self | (simp only [List.mem_cons, List.not_mem_nil, or_false, true_or, or_true]; done))
         | (refine uNo (by kernel_rfl))
         | (refine flatMk ?_; kernel_rfl)
         | (refine And.intro ?_ ?_)
         | (intro hx)
         | ((first
             | (refine callGF ?_)
             | (refine callQGF ?_)
             | (refine skipG ?_)
             | (refine callS (isShard_gives id _) ?_)
             | (refine callQ (isShard_gives id _) ?_)
             | (refine callG (fun hc => (isShard_gives id _)) ?_)
             | (refine callQG (fun hc => (isShard_gives id _)) ?_)
             | (refine callS (implNetOk_gives net _) ?_)
             | (refine callQ (implNetOk_gives net _) ?_)
             | (refine callG (fun hc => (implNetOk_gives net _)) ?_)
             | (refine callQG (fun hc => (implNetOk_gives net _)) ?_)); simp -implicitDefEqProofs only [h1, h2, shD, push_cast, Nat.reduceEqDiff, Nat.reduceBEq, Nat.reduceBNe, Nat.reduceAdd, Nat.reduceMul, Nat.reduceLT, Nat.reduceLeDiff, Nat.reduceSub, reduceCtorEq, Int.reduceToNat, ↓reduceIte]))
      all_goals first
        | trace_state
    | true =>
      cases h3 : net.any busyL with
      | false => rw [h1, h2, h3] at hb; cases hb
      | true =>
        try simp -implicitDefEqProofs only [h1, h2, h3, shD, push_cast, Nat.reduceEqDiff, Nat.reduceBEq, Nat.reduceBNe, Nat.reduceAdd, Nat.reduceMul, Nat.reduceLT, Nat.reduceLeDiff, Nat.reduceSub, reduceCtorEq, Int.reduceToNat, ↓reduceIte]
        repeat'
          (first
           | (refine uYes ?_; first | exact List.mem_cons_self | (simp only [List.mem_cons, List.not_mem_nil, or_false, true_or, or_true]; done))
           | (refine uNo (by kernel_rfl))
           | (refine flatMk ?_; kernel_rfl)
           | (refine And.intro ?_ ?_)
           | (intro hx)
           | ((first
               | (refine callGF ?_)
               | (refine callQGF ?_)
               | (refine skipG ?_)
               | (refine callS (isShard_gives id _) ?_)
               | (refine callQ (isShard_gives id _) ?_)
               | (refine callG (fun hc => (isShard_gives id _)) ?_)
               | (refine callQG (fun hc => (isShard_gives id _)) ?_)
               | (refine callS (implNetOk_gives net _) ?_)
               | (refine callQ (implNetOk_gives net _) ?_)
               | (refine callG (fun hc => (implNetOk_gives net _)) ?_)
               | (refine callQG (fun hc => (implNetOk_gives net _)) ?_)
               | (refine callS (heldAny_gives net _) ?_)
               | (refine callQ (heldAny_gives net _) ?_)
               | (refine callG (fun hc => (heldAny_gives net _)) ?_)
               | (refine callQG (fun hc => (heldAny_gives net _)) ?_)); simp -implicitDefEqProofs only [h1, h2, h3, shD, push_cast, Nat.reduceEqDiff, Nat.reduceBEq, Nat.reduceBNe, Nat.reduceAdd, Nat.reduceMul, Nat.reduceLT, Nat.reduceLeDiff, Nat.reduceSub, reduceCtorEq, Int.reduceToNat, ↓reduceIte]))
        all_goals first
          | trace_state
end Go.Proofs.YthopahcgbbkblaaGreatDoor

/- The program's copy of a net: rows with a dead row ahead of each leg's. -/
namespace Go.Proofs.YthopahcgbbkblaaGreatDoor
set_option linter.unusedSectionVars false
open Go.Av
variable [Av.Start]
set_option maxRecDepth 10000
set_option maxHeartbeats 1000000
set_option linter.unusedSimpArgs false
set_option linter.unusedVariables false

def netD : List Leg → Nat → List D
  | [], _ => []
  | l :: ls, q => l.dvc q ++ netD ls (q + 5)
def cellRow (l : Leg) : Ob := .row l.cs
def netG (x : Leg → Ob) (ls : List Leg) : Hp := ls.flatMap (fun l => x l :: l.rows)
omit [Av.Start] in
theorem netD_len : ∀ (ls : List Leg) (q : Nat), (netD ls q).length = ls.length * 10
  | [], _ => rfl
  | l :: ls, q => by rw [netD, List.length_append, netD_len ls, dvc_len, List.length_cons]; omega
omit [Av.Start] in
theorem netG_len (x : Leg → Ob) : ∀ (ls : List Leg), (netG x ls).length = ls.length * 5
  | [] => rfl
  | l :: ls => by
    show (x l :: l.rows ++ netG x ls).length = _
    rw [List.length_append, netG_len x ls, List.length_cons, List.length_cons, Leg.rows_len]; omega
omit [Av.Start] in
theorem netD_app : ∀ (ls ms : List Leg) (q : Nat), netD (ls ++ ms) q = netD ls q ++ netD ms (q + 5 * ls.length)
  | [], ms, q => by simp [netD]
  | l :: ls, ms, q => by
    rw [List.cons_append, netD, netD, netD_app ls ms, List.append_assoc, List.length_cons, show q + 5 + 5 * ls.length = q + 5 * (ls.length + 1) by omega]
omit [Av.Start] in
theorem netG_app (x : Leg → Ob) (ls ms : List Leg) : netG x (ls ++ ms) = netG x ls ++ netG x ms := List.flatMap_append
omit [Av.Start] in
theorem netD_cl : ∀ (ls : List Leg) {q n : Nat}, q + 5 * ls.length ≤ n + 1 → ∀ d, d ∈ netD ls q → Cl n d
  | [], q, n, _, d, hd => nomatch hd
  | l :: ls, q, n, h, d, hd => by
    rw [List.length_cons] at h
    rcases List.mem_append.1 hd with hd | hd
    · exact l.dvc_cl (by omega) d hd
    · exact netD_cl ls (by omega) d hd
omit [Av.Start] in
theorem netD_nm : ∀ (ls : List Leg) {q n : Nat}, n ≤ q → ∀ d, d ∈ netD ls q → NM n d
  | [], q, n, _, d, hd => nomatch hd
  | l :: ls, q, n, h, d, hd => by
    rcases List.mem_append.1 hd with hd | hd
    · exact l.dvc_nm h d hd
    · exact netD_nm ls (by omega) d hd
omit [Av.Start] in
theorem netG_cl {x : Leg → Ob} {n : Nat} (hx : ∀ l, ObCl n (x l)) (ls : List Leg) : ∀ y, y ∈ netG x ls → ObCl n y := fun y hy => by
  obtain ⟨l, _, hy⟩ := List.mem_flatMap.1 hy
  rcases List.mem_cons.1 hy with rfl | hy
  · exact hx l
  · exact l.rows_cl n y hy
omit [Av.Start] in
theorem netG_nm (ls : List Leg) (n : Nat) : ∀ y, y ∈ netG (fun _ => .dead) ls → NMob n y := fun y hy => by
  obtain ⟨l, _, hy⟩ := List.mem_flatMap.1 hy
  rcases List.mem_cons.1 hy with rfl | hy
  · trivial
  · exact l.rows_nm n y hy
omit [Av.Start] in
theorem netG_dies : ∀ (ls : List Leg), Dies (netG cellRow ls) (netG (fun _ => .dead) ls)
  | [] => .refl _
  | l :: ls => by
    show Dies ([Ob.row l.cs] ++ (l.rows ++ netG cellRow ls)) ([Ob.dead] ++ (l.rows ++ netG (fun _ => .dead) ls))
    exact (Dies.row l.cs).app ((Dies.refl l.rows).app (netG_dies ls))
omit [Av.Start] in
theorem row_cs_cl (n : Nat) (l : Leg) : ObCl n (cellRow l) := fun d hd => legs_cl [l] n d (by simpa using hd)
/-- the row of legs behind k rounds of copyNet -/
def fillD (ls : List Leg) (q k : Nat) : List D := netD (ls.take k) q ++ zeros zC (ls.length - k)
omit [Av.Start] in
theorem fillD_len (ls : List Leg) (q : Nat) {k : Nat} (hk : k ≤ ls.length) : (fillD ls q k).length = ls.length * 10 := by
  rw [fillD, List.length_append, netD_len, List.length_take, zeros_length]
  show min k ls.length * 10 + (ls.length - k) * 10 = _
  omega
omit [Av.Start] in
theorem fillD_step (ls : List Leg) (q : Nat) {k : Nat} (hk : k < ls.length) : (fillD ls q k).take (k * 10) ++ ((ls.getD k default).dvc (q + 5 * k) ++ (fillD ls q k).drop (k * 10 + 10)) = fillD ls q (k + 1) := by
  have h1 : (netD (ls.take k) q).length = k * 10 := by rw [netD_len, List.length_take]; omega
  rw [fillD, List.take_append_of_le_length (by omega), List.take_of_length_le (by omega), List.drop_append, List.drop_eq_nil_of_le (by omega), List.nil_append, h1, show k * 10 + 10 - k * 10 = 10 by omega,
    show ls.length - k = (ls.length - (k + 1)) + 1 by omega, zeros_succ, show (10 : Nat) = zC.length from rfl, List.drop_left, fillD, take_succ_get hk, netD_app, List.length_take, Nat.min_eq_left (by omega), netD, netD, List.append_nil, List.append_assoc]
omit [Av.Start] in
theorem fillD_full (ls : List Leg) (q : Nat) : fillD ls q ls.length = netD ls q := by
  rw [fillD, List.take_length, Nat.sub_self]
  simp [zeros]
omit [Av.Start] in
theorem fillD_cl (ls : List Leg) {q n k : Nat} (hk : k ≤ ls.length) (h : q + 5 * k ≤ n + 1) : ∀ d, d ∈ fillD ls q k → Cl n d := fun d hd => by
  rcases List.mem_append.1 hd with hd | hd
  · exact netD_cl _ (by rw [List.length_take]; omega) d hd
  · exact zC_cl _ d (mem_zeros hd)
omit [Av.Start] in
theorem netG_take (x : Leg → Ob) (ls : List Leg) {k : Nat} (hk : k < ls.length) : netG x (ls.take k) ++ x (ls.getD k default) :: (ls.getD k default).rows = netG x (ls.take (k + 1)) := by
  rw [take_succ_get hk, netG_app]
  simp [netG]
theorem copyNetR0 (net : List Leg) (h : Hp) : Meets Tryz.prog 18 [.slice (net.map Leg.d) .no] h fun d' h' => d' = .vec h.length true 10 0 net.length net.length ∧ h' = h ++ (.row (netD net (h.length + 2)) :: netG cellRow net) := by
  refine meets_of [] mixed Tryz.func18 rfl (by kernel_rfl) (by kernel_rfl) (by rw [Tryz.ntmps18]; simp only [List.length_cons, List.length_nil]; omega) (fun hf => ?_)
  rw [Tryz.results18]
  have hl : net.length ≤ 1073741824 := by simpa [fitsD, flen, lenMax] using hf
  clear hf
  try simp -implicitDefEqProofs only [push_cast, Nat.reduceEqDiff, Nat.reduceBEq, Nat.reduceBNe, Nat.reduceAdd, Nat.reduceMul, Nat.reduceLT, Nat.reduceLeDiff, Nat.reduceSub, reduceCtorEq, Int.reduceToNat, ↓reduceIte]
  repeat'
    (first
     | (refine uYes ?_; first | exact List.mem_cons_self | (simp only [List.mem_cons, List.not_mem_nil, or_false, true_or, or_true]; done))
     | (refine uNo (by kernel_rfl))
     | (refine flatMk ?_; kernel_rfl)
     | (refine And.intro ?_ ?_)
     | (intro hx)
     | ((first
         | (refine callGF ?_)
         | (refine callQGF ?_)
         | (refine skipG ?_)
         | (refine callS (in_gives _ _ _ _) ?_)
         | (refine callQ (in_gives _ _ _ _) ?_)
         | (refine callG (fun hc => (in_gives _ _ _ _)) ?_)
         | (refine callQG (fun hc => (in_gives _ _ _ _)) ?_)); simp -implicitDefEqProofs only [push_cast, Nat.reduceEqDiff, Nat.reduceBEq, Nat.reduceBNe, Nat.reduceAdd, Nat.reduceMul, Nat.reduceLT, Nat.reduceLeDiff, Nat.reduceSub, reduceCtorEq, Int.reduceToNat, ↓reduceIte]))
  all_goals try (simp only [lenMax]; omega)
  all_goals try omega
  refine ev_loop [] (fun k : Nat => [(3, .vec h.length true 10 0 net.length net.length), (9, .slice (net.map Leg.d) .no), (10, .int .i64 net.length), (11, .int .i64 k)])
    (fun k => .row (fillD net (h.length + 2) k) :: netG cellRow (net.take k)) (fun k => k ≤ net.length) (fun k => net.length - k) 0 trivial (Nat.zero_le _) ?_ ?_
  · refine ⟨1, by simp, by simp [tokSts], ?_⟩
    have h0 : netG cellRow (net.take 0) = [] := rfl
    have h1 : fillD net (h.length + 2) 0 = zeros zC net.length := by simp [fillD, netD]
    rw [h0, h1]
    simp -implicitDefEqProofs only [Int.natCast_add, Int.cast_ofNat_Int, List.length_nil, Nat.le_refl, WeakTo, tokSts, tokOks, List.append_cancel_left_eq, exists_eq_left', exists_eq_left, List.append_cancel_left_eq, List.take_length, ObCl, and_true, true_and, push_cast, Nat.reduceEqDiff, Nat.reduceBEq, Nat.reduceBNe, Nat.reduceAdd, Nat.reduceMul, Nat.reduceLT, Nat.reduceLeDiff, Nat.reduceSub, reduceCtorEq, Int.reduceToNat, ↓reduceIte, zC]
    exact fun d hd => zLeg_cl _ _ (mem_zeros hd)
  · intro k hk
    have hw : IntKind.i64.wrap ((k : Int) + 1) = k + 1 := wrap_id (by omega) (by omega)
    have hf := fillD_len net (h.length + 2) hk
    have hr : (netG cellRow (net.take k)).length = 5 * k := by rw [netG_len, List.length_take]; omega
    rcases Nat.lt_or_ge k net.length with hlt | hge
    · have hL := leg_at hlt
      have hR : netG cellRow (net.take k) ++ .row (net.getD k default).cs :: (net.getD k default).rows = netG cellRow (net.take (k + 1)) := netG_take cellRow net hlt
      simp only [Leg.cs] at hR
      have hs := fillD_step net (h.length + 2) hlt
      rw [show h.length + 2 + 5 * k = h.length + (5 * k + 2) by omega] at hs
      simp -implicitDefEqProofs only [Leg.dvc, push_cast, Nat.reduceEqDiff, Nat.reduceBEq, Nat.reduceBNe, Nat.reduceAdd, Nat.reduceMul, Nat.reduceLT, Nat.reduceLeDiff, Nat.reduceSub, reduceCtorEq, Int.reduceToNat, ↓reduceIte] at hs
      have hcl := fun n hn => fillD_cl net (q := h.length + 2) (n := n) (k := k + 1) hlt hn
      have hoA : ∀ x xs, ob (netG cellRow (net.take k) ++ x :: xs) (5 * k) = x := fun x xs => by
        rw [ob, List.getD_eq_getElem?_getD, List.getElem?_append_right (by omega), hr, Nat.sub_self]
        rfl
      have hsA : ∀ x xs y, (netG cellRow (net.take k) ++ x :: xs).set (5 * k) y = netG cellRow (net.take k) ++ y :: xs := fun x xs y => by
        rw [List.set_append_right _ _ (by omega), hr, Nat.sub_self]
        rfl
      try simp -implicitDefEqProofs only [hw, hf, hr, hL, hoA, hsA, Leg.dv, Leg.dvc, Leg.d, Leg.cs, push_cast, Nat.reduceEqDiff, Nat.reduceBEq, Nat.reduceBNe, Nat.reduceAdd, Nat.reduceMul, Nat.reduceLT, Nat.reduceLeDiff, Nat.reduceSub, reduceCtorEq, Int.reduceToNat, ↓reduceIte]
      repeat'
        (first
         | (refine uYes ?_; first | exact List.mem_cons_self | (simp only [List.mem_cons, List.not_mem_nil, or_false, true_or, or_true]; done))
         | (refine uNo (by kernel_rfl))
         | (refine flatMk ?_; kernel_rfl)
         | (refine And.intro ?_ ?_)
         | (intro hx)
         | ((first
             | (refine callGF ?_)
             | (refine callQGF ?_)
             | (refine skipG ?_)
             | (refine callM (copyOfR (net.getD k default) _) ?_)); simp -implicitDefEqProofs only [hw, hf, hr, hL, hoA, hsA, Leg.dv, Leg.dvc, Leg.d, Leg.cs, push_cast, Nat.reduceEqDiff, Nat.reduceBEq, Nat.reduceBNe, Nat.reduceAdd, Nat.reduceMul, Nat.reduceLT, Nat.reduceLeDiff, Nat.reduceSub, reduceCtorEq, Int.reduceToNat, ↓reduceIte]))
      all_goals try omega
      all_goals first
        | (refine round_mk (k + 1) (by omega) (by omega) ?_
           have e1 : (netG cellRow (net.take (k + 1))).length = 5 * (k + 1) := by rw [netG_len, List.length_take]; omega
           simp -implicitDefEqProofs only [hw, hs, hR, Int.natCast_add, Int.cast_ofNat_Int, List.length_nil, Nat.le_refl, WeakTo, tokSts, tokOks, List.append_cancel_left_eq, exists_eq_left', exists_eq_left, List.append_cancel_left_eq, List.take_length, ObCl, and_true, true_and, push_cast, Nat.reduceEqDiff, Nat.reduceBEq, Nat.reduceBNe, Nat.reduceAdd, Nat.reduceMul, Nat.reduceLT, Nat.reduceLeDiff, Nat.reduceSub, reduceCtorEq, Int.reduceToNat, ↓reduceIte]
           exact ⟨by omega, ⟨hcl _ (by omega), netG_cl (row_cs_cl _) _⟩, by omega⟩)
        | trace_state
    · obtain rfl : k = net.length := by omega
      have hn := fillD_full net (h.length + 2)
      have hr2 : (netG cellRow net).length = 5 * net.length := by rw [netG_len]; omega
      try simp -implicitDefEqProofs only [hw, hf, hr2, hn, List.take_length, push_cast, Nat.reduceEqDiff, Nat.reduceBEq, Nat.reduceBNe, Nat.reduceAdd, Nat.reduceMul, Nat.reduceLT, Nat.reduceLeDiff, Nat.reduceSub, reduceCtorEq, Int.reduceToNat, ↓reduceIte]
      repeat'
        (first
         | (refine uYes ?_; first | exact List.mem_cons_self | (simp only [List.mem_cons, List.not_mem_nil, or_false, true_or, or_true]; done))
         | (refine uNo (by kernel_rfl))
         | (refine flatMk ?_; kernel_rfl)
         | (refine And.intro ?_ ?_)
         | (intro hx)
         | ((first
             | (refine callGF ?_)
             | (refine callQGF ?_)
             | (refine skipG ?_)
             | (refine callM (copyOfR (net.getD k default) _) ?_)); simp -implicitDefEqProofs only [hw, hf, hr2, hn, List.take_length, push_cast, Nat.reduceEqDiff, Nat.reduceBEq, Nat.reduceBNe, Nat.reduceAdd, Nat.reduceMul, Nat.reduceLT, Nat.reduceLeDiff, Nat.reduceSub, reduceCtorEq, Int.reduceToNat, ↓reduceIte]))
      all_goals first
        | omega
        | (rw [List.take_of_length_le (by omega)])
        | exact netD_cl _ (by omega) _ hx
        | exact netG_cl (row_cs_cl _) _ _ hx
        | trace_state
theorem copyNetR (net : List Leg) (h : Hp) : Meets Tryz.prog 18 [.slice (net.map Leg.d) .no] h fun d' h' => d' = .vec h.length true 10 0 net.length net.length ∧ h' = h ++ (.row (netD net (h.length + 2)) :: netG (fun _ => .dead) net) :=
  Meets.kill ((Dies.refl h).app ((Dies.refl [_]).app (netG_dies net))) (copyNetR0 net h)
end Go.Proofs.YthopahcgbbkblaaGreatDoor
