/- Contracts of functions of the program (Gp). -/
import Derived.Test.YtmehbbepppjikaaGn
import Derived.Test.YtmehbbepppjikaaGh
import Derived.Test.YtmehbbepppjikaaGm
import Derived.Test.YtmehbbepppjikaaEd

namespace Go.Proofs.Ytmehbbepppjikaa
open Go.Av
set_option maxRecDepth 10000
set_option maxHeartbeats 1000000
set_option linter.unusedSimpArgs false
set_option linter.unusedVariables false

/-- a leg whose numbers are rows of its own, and whose holds are a full slice -/
def Leg.hc (l : Leg) (r : Nat) : List D := [.str l.name, .str l.src, .str l.dst, .int .i64 l.dep, .int .i64 l.arr, .int .i64 l.cap, .vec r false 1 0 l.limits.length l.limits.length, .vec (r + 1) false 1 0 l.sold.length l.sold.length, .vec (r + 2) false 1 0 l.bids.length l.bids.length, .slice (l.holds.map Hold.d) .full]
def Leg.hd (l : Leg) (r : Nat) : D := .agg (l.hc r)
def Leg.hrows (l : Leg) : Hp := [.row (l.limits.map (.int .i64)), .row (l.sold.map (.int .i64)), .row (l.bids.map (.int .i64))]
theorem Leg.hc_cl (l : Leg) {r n : Nat} (h : r + 3 ≤ n) : ∀ d, d ∈ l.hc r → Cl n d := by
  simp only [Leg.hc, List.mem_cons, List.not_mem_nil, or_false, forall_eq_or_imp, forall_eq, cl_int, cl_str, cl_vec, cl_full, true_and, and_true]
  omega
theorem Leg.hd_ren (l : Leg) {n k r : Nat} (h : n ≤ r) : Ren n k (l.hd (r + k)) (l.hd r) := by
  have hv : ∀ (i : Nat) ag sz len cp, Ren n k (.vec (r + k + i) ag sz 0 len cp) (.vec (r + i) ag sz 0 len cp) := fun i ag sz len cp => by
    have := Ren.vec (n := n) (k := k) (r + i) ag sz 0 len cp (by omega)
    rwa [show r + i + k = r + k + i by omega] at this
  refine .agg _ _ rfl fun j h1 h2 => ?_
  match j, h2 with
  | 0, _ => exact .str _
  | 1, _ => exact .str _
  | 2, _ => exact .str _
  | 3, _ => exact .int _ _
  | 4, _ => exact .int _ _
  | 5, _ => exact .int _ _
  | 6, _ => exact hv 0 _ _ _ _
  | 7, _ => exact hv 1 _ _ _ _
  | 8, _ => exact hv 2 _ _ _ _
  | 9, _ => exact .full _
theorem Leg.hrows_ren (l : Leg) (n k : Nat) : ∀ j (h1 : j < l.hrows.length) (h2 : j < l.hrows.length), RenOb n k (l.hrows[j]) (l.hrows[j]) := by
  intro j h1 h2
  match j, h2 with
  | 0, _ => exact ints_ren _ _ _
  | 1, _ => exact ints_ren _ _ _
  | 2, _ => exact ints_ren _ _ _
theorem Leg.hrows_cl (l : Leg) (n : Nat) : ∀ x, x ∈ l.hrows → ObCl n x := by
  simp only [Leg.hrows, List.mem_cons, List.not_mem_nil, or_false, forall_eq_or_imp, forall_eq]
  exact ⟨ints_cl _ _, ints_cl _ _, ints_cl _ _⟩
theorem copyOfH (l : Leg) (h : Hp) : Meets Try.prog 105 [l.d] h fun d' h' => d' = l.hd h.length ∧ h' = h ++ l.hrows := by
  refine Meets.compact (hb := h) (junk := [.row (l.hc (h.length + 2)), .row (l.hc (h.length + 2))]) (rows1 := l.hrows) rfl (old_ob h) (l.hd_ren (Nat.le_refl _)) rfl (l.hrows_ren _ _) ?_
  refine meets_of [] mixed Try.func105 rfl (by kernel_rfl) (by kernel_rfl) (by rw [Try.ntmps105]; simp only [List.length_cons, List.length_nil]; omega) (fun hf => ?_)
  rw [Try.results105]
  clear hf
  try simp -implicitDefEqProofs only [Leg.hd, Leg.hc, Leg.hrows, push_cast, Nat.reduceEqDiff, Nat.reduceBEq, Nat.reduceBNe, Nat.reduceAdd, Nat.reduceMul, Nat.reduceLT, Nat.reduceLeDiff, Nat.reduceSub, reduceCtorEq, Int.reduceToNat, ↓reduceIte]
  repeat'
    (first
     | (refine uYes ?_; first | exact List.mem_cons_self | (simp only [List.mem_cons, List.not_mem_nil, or_false, true_or, or_true]; done))
     | (refine uNo (by kernel_rfl))
     | (refine flatMk ?_; kernel_rfl)
     | (refine And.intro ?_ ?_)
     | (intro hx)
     | ((first
         | (refine inX_mk [] (by kernel_rfl) (by simp) ?_)
         | (refine callGF ?_)
         | (refine callQGF ?_)
         | (refine skipG ?_)
         | (refine callM (icloneR _ _ rfl) ?_)
         | (refine callX (by kernel_rfl) (fun _ hl => (icloneR _ _ hl)) ?_)
         | (refine callS (hclone_gives _ _) ?_)
         | (refine callQ (hclone_gives _ _) ?_)
         | (refine callG (fun hc => (hclone_gives _ _)) ?_)
         | (refine callQG (fun hc => (hclone_gives _ _)) ?_)
         | (refine callXG (fun _ => (hclone_gives _ _)) ?_)); simp -implicitDefEqProofs only [Leg.hd, Leg.hc, Leg.hrows, push_cast, Nat.reduceEqDiff, Nat.reduceBEq, Nat.reduceBNe, Nat.reduceAdd, Nat.reduceMul, Nat.reduceLT, Nat.reduceLeDiff, Nat.reduceSub, reduceCtorEq, Int.reduceToNat, ↓reduceIte]))
  all_goals first
    | omega
    | exact fw_refl _ _ _
    | exact .agg _ (l.hc_cl (by omega))
    | rfl
    | exact l.hc_cl (by omega) _ hx
    | exact ints_cl _ _ _ hx
    | exact l.hrows_cl _ _ hx
    | trace_state

/-- the three rows of numbers -/
structure LegAtH (h : Hp) (q : Nat) (l : Leg) : Prop where
  limits : ob h q = .row (l.limits.map (.int .i64))
  sold : ob h (q + 1) = .row (l.sold.map (.int .i64))
  bids : ob h (q + 2) = .row (l.bids.map (.int .i64))
  lt : q + 2 < h.length
theorem LegAtH.fw {h : Hp} {q : Nat} {l : Leg} (H : LegAtH h q l) : FW 0 h (.agg (l.hc q)) l.d :=
  (fw_agg _ _ _ _).2 ⟨fw_refl _ _ _, fw_refl _ _ _, fw_refl _ _ _, fw_refl _ _ _, fw_refl _ _ _, fw_refl _ _ _, fw_ints (Nat.zero_le _) H.limits rfl, fw_ints (Nat.zero_le _) H.sold rfl, fw_ints (Nat.zero_le _) H.bids rfl, ⟨_, .refl _, .tok _ _⟩, trivial⟩
theorem LegAtH.app {h : Hp} {q : Nat} {l : Leg} (H : LegAtH h q l) (ls : Hp) : LegAtH (h ++ ls) q l := by
  have hl := H.lt
  exact ⟨(ob_app_l (by omega) ls).trans H.limits, (ob_app_l (by omega) ls).trans H.sold, (ob_app_l (by omega) ls).trans H.bids, by rw [List.length_append]; omega⟩
theorem LegAt.app {h : Hp} {q : Nat} {l : Leg} (H : LegAt h q l) (ls : Hp) : LegAt (h ++ ls) q l := by
  have hl := H.lt
  exact ⟨(ob_app_l (by omega) ls).trans H.limits, (ob_app_l (by omega) ls).trans H.sold, (ob_app_l (by omega) ls).trans H.bids, (ob_app_l (by omega) ls).trans H.holds, by rw [List.length_append]; omega⟩
theorem Hold.cl0 (o : Hold) (n : Nat) : Cl n o.d := .agg _ fun d hd => by
  simp only [Hold.cs, List.mem_cons, List.not_mem_nil, or_false] at hd
  rcases hd with rfl | rfl | rfl <;> exact .int _ _
theorem holdR_no (l : Leg) (o : Hold) (s : Int) (r q : Nat) (h : Hp) (hr : ob h r = .row (l.dvc q)) (hrl : r < h.length) (H : LegAt h q l) (hp : LegP l) (hc : canB l o s = false) :
    Gives Try.prog 106 [.ptr r 0, o.d, .int .i64 s] h (.bool false) := by
  obtain ⟨r1, r2, r3, r4, r5, r6, r7, r8, r9⟩ := rdf hrl
  have r4' := fun ls => (r4 ls).trans hr
  simp only [Leg.dvc] at r4'
  have hC := fun g => can_gives l o s g hp
  rw [hc] at hC
  refine meets_of [] mixed Try.func106 rfl (by kernel_rfl) (by kernel_rfl) (by rw [Try.ntmps106]; simp only [List.length_cons, List.length_nil]; omega) (fun hf => ?_)
  rw [Try.results106]
  clear hf
  try simp -implicitDefEqProofs only [r4', push_cast, Nat.reduceEqDiff, Nat.reduceBEq, Nat.reduceBNe, Nat.reduceAdd, Nat.reduceMul, Nat.reduceLT, Nat.reduceLeDiff, Nat.reduceSub, reduceCtorEq, Int.reduceToNat, ↓reduceIte]
  repeat'
    (first
     | (refine uYes ?_; first | exact List.mem_cons_self | (simp only [List.mem_cons, List.not_mem_nil, or_false, true_or, or_true]; done))
     | (refine uNo (by kernel_rfl))
     | (refine flatMk ?_; kernel_rfl)
     | (refine And.intro ?_ ?_)
     | (intro hx)
     | ((first
         | (refine callGF ?_)
         | (refine callQGF ?_)
         | (refine skipG ?_)
         | (refine fzQ (hC _) ⟨(H.app _).fw, l.cl0 0, fw_refl _ _ _, o.cl0 0, fw_refl _ _ _, .int _ _, trivial⟩ (.bool _) ?_)); simp -implicitDefEqProofs only [r4', push_cast, Nat.reduceEqDiff, Nat.reduceBEq, Nat.reduceBNe, Nat.reduceAdd, Nat.reduceMul, Nat.reduceLT, Nat.reduceLeDiff, Nat.reduceSub, reduceCtorEq, Int.reduceToNat, ↓reduceIte]))
  all_goals first
    | omega
    | trace_state
theorem holdH_yes (l : Leg) (o : Hold) (s : Int) (r q : Nat) (h : Hp) (hr : ob h r = .row (l.hc q)) (hrl : r < h.length) (H : LegAtH h q l) (hp : LegP l) (hc : canB l o s = true) :
    Meets Try.prog 106 [.ptr r 0, o.d, .int .i64 s] h fun d' h' => d' = .bool true ∧ h' = h.set r (.row (l.at4 q (q + 1) (q + 2) (h.length + 1) (l.holds.length + 1))) ++ [.row o.cs, .row ((holdL l o).holds.flatMap Hold.cs)] := by
  obtain ⟨r1, r2, r3, r4, r5, r6, r7, r8, r9⟩ := rdf hrl
  have r4' := fun ls => (r4 ls).trans hr
  simp only [Leg.hc] at r4'
  have hC := fun g => can_gives l o s g hp
  rw [hc] at hC
  have hll := hp.holds
  have hq := H.lt
  refine meets_of [] mixed Try.func106 rfl (by kernel_rfl) (by kernel_rfl) (by rw [Try.ntmps106]; simp only [List.length_cons, List.length_nil]; omega) (fun hf => ?_)
  rw [Try.results106]
  clear hf
  try simp -implicitDefEqProofs only [r4', push_cast, Nat.reduceEqDiff, Nat.reduceBEq, Nat.reduceBNe, Nat.reduceAdd, Nat.reduceMul, Nat.reduceLT, Nat.reduceLeDiff, Nat.reduceSub, reduceCtorEq, Int.reduceToNat, ↓reduceIte]
  repeat'
    (first
     | (refine uYes ?_; first | exact List.mem_cons_self | (simp only [List.mem_cons, List.not_mem_nil, or_false, true_or, or_true]; done))
     | (refine uNo (by kernel_rfl))
     | (refine flatMk ?_; kernel_rfl)
     | (refine And.intro ?_ ?_)
     | (intro hx)
     | ((first
         | (refine callGF ?_)
         | (refine callQGF ?_)
         | (refine skipG ?_)
         | (refine fzQ (hC _) ⟨(H.app _).fw, l.cl0 0, fw_refl _ _ _, o.cl0 0, fw_refl _ _ _, .int _ _, trivial⟩ (.bool _) ?_)); simp -implicitDefEqProofs only [r4', push_cast, Nat.reduceEqDiff, Nat.reduceBEq, Nat.reduceBNe, Nat.reduceAdd, Nat.reduceMul, Nat.reduceLT, Nat.reduceLeDiff, Nat.reduceSub, reduceCtorEq, Int.reduceToNat, ↓reduceIte]))
  all_goals try omega
  refine ev_loop [] (fun k : Nat => [(0, .ptr r 0), (2, .int .i64 s), (4, .ptr h.length 0), (7, .int .i64 k)])
    (fun _ => [.row o.cs]) (fun k => k ≤ l.holds.length ∧ ∀ i, i < k → (l.holds.getD i default).txn < o.txn) (fun k => l.holds.length - k) 0 trivial ⟨Nat.zero_le _, fun i hi => absurd hi (Nat.not_lt_zero i)⟩ ?_ ?_
  · refine ⟨1, by simp, by simp [tokSts], ?_⟩
    simp -implicitDefEqProofs only [Int.natCast_add, Int.cast_ofNat_Int, List.length_nil, Nat.le_refl, WeakTo, tokSts, tokOks, List.append_cancel_left_eq, exists_eq_left', exists_eq_left, List.append_cancel_left_eq, List.take_length, ObCl, and_true, true_and, push_cast, Nat.reduceEqDiff, Nat.reduceBEq, Nat.reduceBNe, Nat.reduceAdd, Nat.reduceMul, Nat.reduceLT, Nat.reduceLeDiff, Nat.reduceSub, reduceCtorEq, Int.reduceToNat, ↓reduceIte]
    omega
  · intro k hk
    have hw : IntKind.i64.wrap ((k : Int) + 1) = k + 1 := wrap_id (by omega) (by omega)
    have hil := insert_len l.holds o hk.1
    try simp -implicitDefEqProofs only [hw, r4', lenMax, push_cast, Nat.reduceEqDiff, Nat.reduceBEq, Nat.reduceBNe, Nat.reduceAdd, Nat.reduceMul, Nat.reduceLT, Nat.reduceLeDiff, Nat.reduceSub, reduceCtorEq, Int.reduceToNat, ↓reduceIte]
    repeat'
      (first
       | (refine uYes ?_; first | exact List.mem_cons_self | (simp only [List.mem_cons, List.not_mem_nil, or_false, true_or, or_true]; done))
       | (refine uNo (by kernel_rfl))
       | (refine flatMk ?_; kernel_rfl)
       | (refine And.intro ?_ ?_)
       | (intro hx)
       | ((first
           | (refine inX_mk [] (by kernel_rfl) (by simp) ?_)
           | (refine callGF ?_)
           | (refine callQGF ?_)
           | (refine skipG ?_)
           | (refine callS (insert_gives l.holds o k _ hk.1 (by omega)) ?_)
           | (refine callQ (insert_gives l.holds o k _ hk.1 (by omega)) ?_)
           | (refine callG (fun hc => (insert_gives l.holds o k _ hk.1 (by omega))) ?_)
           | (refine callQG (fun hc => (insert_gives l.holds o k _ hk.1 (by omega))) ?_)
           | (refine callXG (fun _ => (insert_gives l.holds o k _ hk.1 (by omega))) ?_)
           | (refine callX (by kernel_rfl) (fun h' hl' => hcloneR _ h' hl') ?_)); simp -implicitDefEqProofs only [hw, r4', lenMax, push_cast, Nat.reduceEqDiff, Nat.reduceBEq, Nat.reduceBNe, Nat.reduceAdd, Nat.reduceMul, Nat.reduceLT, Nat.reduceLeDiff, Nat.reduceSub, reduceCtorEq, Int.reduceToNat, ↓reduceIte]))
    all_goals first
      | omega
      | (refine round_mk (k + 1) ⟨by omega, fun i hi => ?_⟩ (by omega) ?_
         · by_cases e : i = k
           · subst e; exact hx.2
           · exact hk.2 i (by omega)
         · simp -implicitDefEqProofs only [hw, Int.natCast_add, Int.cast_ofNat_Int, List.length_nil, Nat.le_refl, WeakTo, tokSts, tokOks, List.append_cancel_left_eq, exists_eq_left', exists_eq_left, List.append_cancel_left_eq, List.take_length, ObCl, and_true, true_and, push_cast, Nat.reduceEqDiff, Nat.reduceBEq, Nat.reduceBNe, Nat.reduceAdd, Nat.reduceMul, Nat.reduceLT, Nat.reduceLeDiff, Nat.reduceSub, reduceCtorEq, Int.reduceToNat, ↓reduceIte]
           omega)
      | (have e : placeN l o.txn = k := whileN_at default hk.1 (fun i hi => decide_eq_true (hk.2 i hi)) (fun hi => decide_eq_false (by omega))
         have hn : min k l.holds.length + (l.holds.length - k + 1) = l.holds.length + 1 := by omega
         have hh : (holdL l o).holds = l.holds.take k ++ o :: l.holds.drop k := by rw [holdL, e]
         rw [r1, hh, hn]
         refine back_mod (by simp) (fun j y hj => ?_) ?_
         · by_cases e : j = r
           · subst e
             rw [List.getElem?_set_self hrl] at hj
             cases hj
             refine .inr ?_
             show ∀ d, d ∈ l.at4 q (q + 1) (q + 2) (h.length + 1) (l.holds.length + 1) → Cl (h.length + 2) d
             simp only [Leg.at4, List.mem_cons, List.not_mem_nil, or_false, forall_eq_or_imp, forall_eq, cl_int, cl_str, cl_vec, true_and]
             omega
           · rw [List.getElem?_set_ne (fun e' => e e'.symm)] at hj
             exact .inl hj
         · intro x hx
           simp only [List.mem_cons, List.not_mem_nil, or_false] at hx
           rcases hx with rfl | rfl
           · exact fun d hd => by
               simp only [List.mem_cons, List.not_mem_nil, or_false] at hd
               rcases hd with rfl | rfl | rfl <;> exact .int _ _
           · exact holds_cl _ _)
      | trace_state
end Go.Proofs.Ytmehbbepppjikaa

namespace Go.Proofs.Ytmehbbepppjikaa
open Go.Av
set_option maxRecDepth 10000
set_option maxHeartbeats 1000000
set_option linter.unusedSimpArgs false
set_option linter.unusedVariables false

theorem holdH7 (l : Leg) (o : Hold) (s : Int) (h : Hp) (a b c : Ob) (hp : LegP l) (hc : canB l o s = true) :
    Meets Try.prog 106 [.ptr (h.length + 6) 0, o.d, .int .i64 s] (h ++ [a, b, c, .row (l.limits.map (.int .i64)), .row (l.sold.map (.int .i64)), .row (l.bids.map (.int .i64)), .row (l.hc (h.length + 3))]) fun d' h' => d' = .bool true ∧
      h' = h ++ [a, b, c, .row (l.limits.map (.int .i64)), .row (l.sold.map (.int .i64)), .row (l.bids.map (.int .i64)), .row (l.at4 (h.length + 3) (h.length + 4) (h.length + 5) (h.length + 8) (l.holds.length + 1)), .row o.cs, .row ((holdL l o).holds.flatMap Hold.cs)] := by
  have H := holdH_yes l o s (h.length + 6) (h.length + 3) (h ++ [a, b, c, .row (l.limits.map (.int .i64)), .row (l.sold.map (.int .i64)), .row (l.bids.map (.int .i64)), .row (l.hc (h.length + 3))]) (ob_app h _ 6) (by simp) ⟨ob_app h _ 3, ob_app h _ 4, ob_app h _ 5, by simp⟩ hp hc
  rw [show (h ++ [a, b, c, .row (l.limits.map (.int .i64)), .row (l.sold.map (.int .i64)), .row (l.bids.map (.int .i64)), .row (l.hc (h.length + 3))]).length = h.length + 7 by simp, set_app] at H
  simpa using H
theorem implLegHold_no (l : Leg) (o : Hold) (s : Int) (h : Hp) (hb : legB l = true) (hc : canB l o s = false) : Meets Try.prog 53 [l.d, o.d, .int .i64 s] h fun d' h' => d' = .tup [l.dv h.length, .bool false] ∧ h' = h ++ l.rows := by
  have hp := legP_of hb
  refine Meets.compact (hb := h) (junk := [.row l.cs, .row o.cs, .row (l.dvc (h.length + 3))]) (rows1 := l.rows) (d1 := .tup [l.dv (h.length + 3), .bool false]) rfl (old_ob h) (.tup _ _ rfl ?_) rfl (l.rows_ren _ _) ?_
  · intro j h1 h2
    match j, h2 with
    | 0, _ => exact l.dv_ren (Nat.le_refl _)
    | 1, _ => exact .bool _
  refine meets_of [] mixed Try.func53 rfl (by kernel_rfl) (by kernel_rfl) (by rw [Try.ntmps53]; simp only [List.length_cons, List.length_nil]; omega) (fun hf => ?_)
  rw [Try.results53]
  clear hf
  try simp -implicitDefEqProofs only [hb, Leg.dv, Leg.dvc, Leg.rows, push_cast, Nat.reduceEqDiff, Nat.reduceBEq, Nat.reduceBNe, Nat.reduceAdd, Nat.reduceMul, Nat.reduceLT, Nat.reduceLeDiff, Nat.reduceSub, reduceCtorEq, Int.reduceToNat, ↓reduceIte]
  repeat'
    (first
     | (refine uYes ?_; first | exact List.mem_cons_self | (simp only [List.mem_cons, List.not_mem_nil, or_false, true_or, or_true]; done))
     | (refine uNo (by kernel_rfl))
     | (refine flatMk ?_; kernel_rfl)
     | (refine And.intro ?_ ?_)
     | (intro hx)
     | ((first
         | (refine callGF ?_)
         | (refine callQGF ?_)
         | (refine skipG ?_)
         | (refine callS (implLegOk_gives l _) ?_)
         | (refine callQ (implLegOk_gives l _) ?_)
         | (refine callG (fun hc => (implLegOk_gives l _)) ?_)
         | (refine callQG (fun hc => (implLegOk_gives l _)) ?_)
         | (refine callM (copyOfR l _) ?_)
         | (refine callS (holdR_no l o s (h.length + 7) (h.length + 3) _ (ob_app h _ 7) (by simp) ⟨ob_app h _ 3, ob_app h _ 4, ob_app h _ 5, ob_app h _ 6, by simp⟩ hp hc) ?_)
         | (refine callQ (holdR_no l o s (h.length + 7) (h.length + 3) _ (ob_app h _ 7) (by simp) ⟨ob_app h _ 3, ob_app h _ 4, ob_app h _ 5, ob_app h _ 6, by simp⟩ hp hc) ?_)
         | (refine callG (fun hc => (holdR_no l o s (h.length + 7) (h.length + 3) _ (ob_app h _ 7) (by simp) ⟨ob_app h _ 3, ob_app h _ 4, ob_app h _ 5, ob_app h _ 6, by simp⟩ hp hc)) ?_)
         | (refine callQG (fun hc => (holdR_no l o s (h.length + 7) (h.length + 3) _ (ob_app h _ 7) (by simp) ⟨ob_app h _ 3, ob_app h _ 4, ob_app h _ 5, ob_app h _ 6, by simp⟩ hp hc)) ?_)); simp -implicitDefEqProofs only [hb, Leg.dv, Leg.dvc, Leg.rows, push_cast, Nat.reduceEqDiff, Nat.reduceBEq, Nat.reduceBNe, Nat.reduceAdd, Nat.reduceMul, Nat.reduceLT, Nat.reduceLeDiff, Nat.reduceSub, reduceCtorEq, Int.reduceToNat, ↓reduceIte]))
  all_goals first
    | omega
    | rfl
    | exact ints_cl _ _ _ hx
    | exact holds_cl _ _ _ hx
    | trace_state
theorem implLegHold_yes (l : Leg) (o : Hold) (s : Int) (h : Hp) (hb : legB l = true) (hc : canB l o s = true) : Meets Try.prog 53 [l.d, o.d, .int .i64 s] h fun d' h' => d' = .tup [(holdL l o).dv h.length, .bool true] ∧ h' = h ++ (holdL l o).rows := by
  have hp := legP_of hb
  have hl : (holdL l o).holds.length = l.holds.length + 1 := insert_len l.holds o (placeN_le l o.txn)
  have ed : (holdL l o).dv h.length = .agg (l.at4 h.length (h.length + 1) (h.length + 2) (h.length + 3) (l.holds.length + 1)) := by rw [← hl]; rfl
  have er : (holdL l o).rows = [.row (l.limits.map (.int .i64)), .row (l.sold.map (.int .i64)), .row (l.bids.map (.int .i64)), .row ((holdL l o).holds.flatMap Hold.cs)] := rfl
  rw [ed, er, show h ++ [.row (l.limits.map (.int .i64)), .row (l.sold.map (.int .i64)), .row (l.bids.map (.int .i64)), .row ((holdL l o).holds.flatMap Hold.cs)] = (h ++ [.row (l.limits.map (.int .i64)), .row (l.sold.map (.int .i64)), .row (l.bids.map (.int .i64))]) ++ [.row ((holdL l o).holds.flatMap Hold.cs)] by simp]
  refine Meets.compactAt (h := h) (hb := h ++ [.row (l.limits.map (.int .i64)), .row (l.sold.map (.int .i64)), .row (l.bids.map (.int .i64))])
    (junk := [.row (l.at4 h.length (h.length + 1) (h.length + 2) (h.length + 5) (l.holds.length + 1)), .row o.cs])
    (rows1 := [.row ((holdL l o).holds.flatMap Hold.cs)]) (d1 := .tup [.agg (l.at4 h.length (h.length + 1) (h.length + 2) (h.length + 5) (l.holds.length + 1)), .bool true]) ?_ ?_ ?_ rfl ?_ ?_
  · simp
  · intro r x hx
    by_cases hr : r < h.length
    · rw [List.getElem?_append_left hr] at hx
      exact .inl hx
    · rw [List.getElem?_append_right (by omega)] at hx
      have := List.mem_of_getElem? hx
      simp only [List.mem_cons, List.not_mem_nil, or_false] at this
      rcases this with e | e | e <;> rw [e] <;> exact .inr (ints_cl _ _)
  · refine .tup _ _ rfl fun j h1 h2 => ?_
    match j, h2 with
    | 0, _ =>
      refine .agg _ _ rfl (l.at4_ren (fun _ _ _ _ => .old _ _ _ _ _ _ (by simp)) (fun _ _ _ _ => .old _ _ _ _ _ _ (by simp)) (fun _ _ _ _ => .old _ _ _ _ _ _ (by simp)) (fun _ _ _ _ => ?_))
      exact .vec (h.length + 3) _ _ _ _ _ (by simp)
    | 1, _ => exact .bool _
  · intro j h1 h2
    match j, h2 with
    | 0, _ => exact holds_ren _ _ _
  rw [show (h ++ [.row (l.limits.map (.int .i64)), .row (l.sold.map (.int .i64)), .row (l.bids.map (.int .i64))]) ++ ([.row (l.at4 h.length (h.length + 1) (h.length + 2) (h.length + 5) (l.holds.length + 1)), .row o.cs] ++ [.row ((holdL l o).holds.flatMap Hold.cs)]) =
    h ++ [.row (l.limits.map (.int .i64)), .row (l.sold.map (.int .i64)), .row (l.bids.map (.int .i64)), .row (l.at4 h.length (h.length + 1) (h.length + 2) (h.length + 5) (l.holds.length + 1)), .row o.cs, .row ((holdL l o).holds.flatMap Hold.cs)] by simp]
  have hre : ∀ i (h1 : i < (l.at4 (h.length + 3) (h.length + 4) (h.length + 5) (h.length + 8) (l.holds.length + 1)).length) (h2 : i < (l.at4 h.length (h.length + 1) (h.length + 2) (h.length + 5) (l.holds.length + 1)).length), Ren h.length 3 ((l.at4 (h.length + 3) (h.length + 4) (h.length + 5) (h.length + 8) (l.holds.length + 1))[i]) ((l.at4 h.length (h.length + 1) (h.length + 2) (h.length + 5) (l.holds.length + 1))[i]) :=
    l.at4_ren (fun _ _ _ _ => .vec h.length _ _ _ _ _ (by omega)) (fun _ _ _ _ => .vec (h.length + 1) _ _ _ _ _ (by omega)) (fun _ _ _ _ => .vec (h.length + 2) _ _ _ _ _ (by omega)) (fun _ _ _ _ => .vec (h.length + 5) _ _ _ _ _ (by omega))
  refine Meets.compact (hb := h) (junk := [.row l.cs, .row o.cs, .row (l.at4 (h.length + 3) (h.length + 4) (h.length + 5) (h.length + 8) (l.holds.length + 1))])
    (rows1 := [.row (l.limits.map (.int .i64)), .row (l.sold.map (.int .i64)), .row (l.bids.map (.int .i64)), .row (l.at4 (h.length + 3) (h.length + 4) (h.length + 5) (h.length + 8) (l.holds.length + 1)), .row o.cs, .row ((holdL l o).holds.flatMap Hold.cs)])
    (d1 := .tup [.agg (l.at4 (h.length + 3) (h.length + 4) (h.length + 5) (h.length + 8) (l.holds.length + 1)), .bool true]) rfl (old_ob h) (.tup _ _ rfl ?_) rfl ?_ ?_
  · intro j h1 h2
    match j, h2 with
    | 0, _ => exact .agg _ _ rfl hre
    | 1, _ => exact .bool _
  · intro j h1 h2
    match j, h2 with
    | 0, _ => exact ints_ren _ _ _
    | 1, _ => exact ints_ren _ _ _
    | 2, _ => exact ints_ren _ _ _
    | 3, _ => exact .row _ _ rfl hre
    | 4, _ => exact hold_ren _ _ _
    | 5, _ => exact holds_ren _ _ _
  refine meets_of [] mixed Try.func53 rfl (by kernel_rfl) (by kernel_rfl) (by rw [Try.ntmps53]; simp only [List.length_cons, List.length_nil]; omega) (fun hf => ?_)
  rw [Try.results53]
  clear hf
  try simp -implicitDefEqProofs only [hb, Leg.hd, Leg.hc, Leg.hrows, Leg.at4, push_cast, Nat.reduceEqDiff, Nat.reduceBEq, Nat.reduceBNe, Nat.reduceAdd, Nat.reduceMul, Nat.reduceLT, Nat.reduceLeDiff, Nat.reduceSub, reduceCtorEq, Int.reduceToNat, ↓reduceIte]
  repeat'
    (first
     | (refine uYes ?_; first | exact List.mem_cons_self | (simp only [List.mem_cons, List.not_mem_nil, or_false, true_or, or_true]; done))
     | (refine uNo (by kernel_rfl))
     | (refine flatMk ?_; kernel_rfl)
     | (refine And.intro ?_ ?_)
     | (intro hx)
     | ((first
         | (refine callGF ?_)
         | (refine callQGF ?_)
         | (refine skipG ?_)
         | (refine callS (implLegOk_gives l _) ?_)
         | (refine callQ (implLegOk_gives l _) ?_)
         | (refine callG (fun hc => (implLegOk_gives l _)) ?_)
         | (refine callQG (fun hc => (implLegOk_gives l _)) ?_)
         | (refine callM (copyOfH l _) ?_)
         | (refine callM (holdH7 l o s h _ _ _ hp hc) ?_)); simp -implicitDefEqProofs only [hb, Leg.hd, Leg.hc, Leg.hrows, Leg.at4, push_cast, Nat.reduceEqDiff, Nat.reduceBEq, Nat.reduceBNe, Nat.reduceAdd, Nat.reduceMul, Nat.reduceLT, Nat.reduceLeDiff, Nat.reduceSub, reduceCtorEq, Int.reduceToNat, ↓reduceIte]))
  all_goals first
    | omega
    | rfl
    | exact ints_cl _ _ _ hx
    | exact holds_cl _ _ _ hx
    | trace_state
theorem implLegHoldR (l : Leg) (o : Hold) (s : Int) (h : Hp) {m : Nat} (hm : h.length = m) (hb : legB l = true) : Meets Try.prog 53 [l.d, o.d, .int .i64 s] h fun d' h' => d' = .tup [(heldV l o s).dv m, .bool (heldB l o s)] ∧ h' = h ++ (heldV l o s).rows := by
  subst hm
  simp only [heldV, heldB, hb, if_true, Bool.true_and]
  cases hc : canB l o s with
  | true => exact implLegHold_yes l o s h hb hc
  | false => exact implLegHold_no l o s h hb hc
/-- the rows of a leg that stands at q -/
def R4 (l : Leg) (q : Nat) : List (Nat × Ob) := [(q, .row (l.limits.map (.int .i64))), (q + 1, .row (l.sold.map (.int .i64))), (q + 2, .row (l.bids.map (.int .i64))), (q + 3, .row (l.holds.flatMap Hold.cs))]
theorem ob_some {h : Hp} {r : Nat} {cs : List D} (e : ob h r = .row cs) : h[r]? = some (.row cs) := by
  rw [ob, List.getD_eq_getElem?_getD] at e
  cases he : h[r]? with
  | none => rw [he] at e; cases e
  | some x => rw [he] at e; exact congrArg some e
theorem ob_of {h : Hp} {r : Nat} {x : Ob} (e : h[r]? = some x) : ob h r = x := by rw [ob, List.getD_eq_getElem?_getD, e]; rfl
theorem r4_at {h : Hp} {q : Nat} {l : Leg} (H : LegAt h q l) : ∀ p, p ∈ R4 l q → h[p.1]? = some p.2 := by
  simp only [R4, List.mem_cons, List.not_mem_nil, or_false, forall_eq_or_imp, forall_eq]
  exact ⟨ob_some H.limits, ob_some H.sold, ob_some H.bids, ob_some H.holds⟩
theorem at_r4 {h : Hp} {q : Nat} {l : Leg} (H : ∀ p, p ∈ R4 l q → h[p.1]? = some p.2) : LegAt h q l := by
  simp only [R4, List.mem_cons, List.not_mem_nil, or_false, forall_eq_or_imp, forall_eq] at H
  obtain ⟨a, b, c, d⟩ := H
  exact ⟨ob_of a, ob_of b, ob_of c, ob_of d, (List.getElem?_eq_some_iff.1 d).1⟩
theorem FzL3 {h : Hp} {q : Nat} {l : Leg} {o : Hold} {n : Int} (H : LegAt h q l) : FzL h [l.dv q, o.d, .int .i64 n] [l.d, o.d, .int .i64 n] := ⟨H.fw, l.cl0 0, fw_refl _ _ _, o.cl0 0, fw_refl _ _ _, .int _ _, trivial⟩
theorem legHoldX (l : Leg) (o : Hold) (s : Int) {g : Hp} {q n : Nat} (hn : g.length = n) (hb : legB l = true) : ∀ h' : Hp, h'.length = g.length → (∀ p, p ∈ R4 l q → h'[p.1]? = some p.2) →
    Meets Try.prog 53 [l.dv q, o.d, .int .i64 s] h' fun d' h'' => d' = .tup [(heldV l o s).dv n, .bool (heldB l o s)] ∧ h'' = h' ++ (heldV l o s).rows := fun h' hl hR => by
  refine Meets.frozenR (implLegHoldR l o s (deadOf h') (by rw [deadOf_length, hl, hn]) hb) (FzL3 (at_r4 hR)) (.tup _ fun c hc => ?_) ((heldV l o s).rows_nm _)
  simp only [List.mem_cons, List.not_mem_nil, or_false] at hc
  rcases hc with rfl | rfl
  · exact Leg.dv_nm _ (by omega)
  · exact .bool _
theorem legHoldX_bad (l : Leg) (o : Hold) (s : Int) {g : Hp} {q : Nat} (hb : legB l = false) : ∀ h' : Hp, h'.length = g.length → (∀ p, p ∈ R4 l q → h'[p.1]? = some p.2) →
    Meets Try.prog 53 [l.dv q, o.d, .int .i64 s] h' fun d' h'' => d' = .tup [Leg.d default, .bool false] ∧ h'' = h' ++ [] := fun h' hl hR => by
  have H := implLegHold_gives l o s (deadOf h')
  simp only [heldV, heldB, hb, Bool.false_and] at H
  refine Meets.frozenR (rows := []) (by rw [List.append_nil]; exact H) (FzL3 (at_r4 hR)) (.tup _ fun c hc => ?_) (fun x hx => nomatch hx)
  simp only [List.mem_cons, List.not_mem_nil, or_false] at hc
  rcases hc with rfl | rfl
  · exact Leg.nm0
  · exact .bool _
end Go.Proofs.Ytmehbbepppjikaa

namespace Go.Proofs.Ytmehbbepppjikaa
open Go.Av
set_option maxRecDepth 10000
set_option maxHeartbeats 1000000
set_option linter.unusedSimpArgs false
set_option linter.unusedVariables false

macro "lt_all" : tactic => `(tactic| first | (simp; done) | (simp; omega))
theorem heldV_dim {l : Leg} (o : Hold) (s : Int) (hb : legB l = true) : (heldV l o s).limits.length = 3 ∧ (heldV l o s).sold.length = 3 ∧ (heldV l o s).bids.length ≤ 4 ∧ (heldV l o s).holds.length ≤ 7 := by
  have hp := legP_of hb
  have h1 := hp.limits
  have h2 := hp.sold
  have h3 := hp.bids
  have h4 := hp.holds
  simp only [heldV, hb, if_true]
  split
  · have hl : (holdL l o).holds.length = l.holds.length + 1 := insert_len l.holds o (placeN_le l o.txn)
    exact ⟨h1, h2, h3.2, by omega⟩
  · exact ⟨h1, h2, h3.2, by omega⟩
theorem fnExactLegHold_ok (l : Leg) (o : Hold) (s : Int) (h : Hp) (hb : legB l = true) : Gives Try.prog 15 [l.d, o.d, .int .i64 s] h (.bool true) := by
  have hS := fun g => specLegHold_gives l o s g
  have hI := fun g m (e : List.length g = m) => implLegHoldR l o s g e hb
  have hX := fun g q n (e : List.length g = n) => legHoldX l o s (g := g) (q := q) e hb
  have hw := heldV_dim o s hb
  generalize heldV l o s = w at hS hI hX hw
  generalize heldB l o s = b at hS hI hX
  refine meets_of [] mixed Try.func15 rfl (by kernel_rfl) (by kernel_rfl) (by rw [Try.ntmps15]; simp only [List.length_cons, List.length_nil]; omega) (fun hf => ?_)
  rw [Try.results15]
  obtain ⟨_, _, _, hf1, hf2, hf3, hf4⟩ := Leg.fit (hf l.d (by simp))
  clear hf
  have hm : markE l 1 ≤ 4000000000000000000 := by simp only [markE]; omega
  have hmp : decide (markE l 1 < 0) = false := decide_eq_false (by simp only [markE]; omega)
  have hm' : markE w 1 ≤ 4000000000000000000 := by simp only [markE]; omega
  have hmp' : decide (markE w 1 < 0) = false := decide_eq_false (by simp only [markE]; omega)
  try simp -implicitDefEqProofs only [Leg.dv, Leg.dvc, Leg.rows, eqLegB_self, hmp, hmp', markH, bne_self_eq_false, push_cast, Nat.reduceEqDiff, Nat.reduceBEq, Nat.reduceBNe, Nat.reduceAdd, Nat.reduceMul, Nat.reduceLT, Nat.reduceLeDiff, Nat.reduceSub, reduceCtorEq, Int.reduceToNat, ↓reduceIte]
  repeat'
    (first
     | (refine uYes ?_; first | exact List.mem_cons_self | (simp only [List.mem_cons, List.not_mem_nil, or_false, true_or, or_true]; done))
     | (refine uNo (by kernel_rfl))
     | (refine flatMk ?_; kernel_rfl)
     | (refine And.intro ?_ ?_)
     | (intro hx)
     | ((first
         | (refine callGF ?_)
         | (refine callQGF ?_)
         | (refine skipG ?_)
         | (refine callS (szLeg_gives l _ _) ?_)
         | (refine callQ (szLeg_gives l _ _) ?_)
         | (refine callG (fun hc => (szLeg_gives l _ _)) ?_)
         | (refine callQG (fun hc => (szLeg_gives l _ _)) ?_)
         | (refine inX_mkP [h.length + 3, h.length + 3 + 1, h.length + 3 + 2, h.length + 3 + 3] (by kernel_rfl) (by lt_all) ?_)
         | (refine inX_mkS [] [h.length + 2] (by rfl) (by kernel_rfl) (by simp) ?_)
         | (refine callXG (dst := some 25) (fun _ => toLeg_gives l _) ?_)
         | (refine callXG (dst := some 27) (fun _ => toHold_gives o _) ?_)
         | (refine callXG (dst := some 29) (fun _ => hS _) ?_)
         | (refine callM (dst := some 33) (toLegR l _) ?_)
         | (refine callXG (dst := some 37) (fun _ => toHold_gives o _) ?_)
         | (refine callXP (dst := some 39) (R4 l (h.length + 3)) (by exact fun e => nomatch e) (by simp only [R4, List.mem_cons, List.not_mem_nil, or_false, forall_eq_or_imp, forall_eq, true_or, or_true, and_self]) (r4_at (legAt_of 3 rfl rfl rfl rfl rfl (by simp))) (hX _ _ (h.length + 9) (by simp)) ?_)
         | (refine fzS (dst := some 44) (eqLeg_gives w w _) (FzLd (legAt_of 9 rfl rfl rfl rfl rfl (by simp))) (.bool _) ?_)
         | (refine callQ (dst := some 53) (toLeg_gives l _) ?_)
         | (refine fzQ (dst := some 54) (eqLeg_gives l l _) (FzLd (legAt_of 3 rfl rfl rfl rfl rfl (by simp))) (.bool _) ?_)
         | (refine callM (dst := some 58) (markLegA l 3 1 h _ (legAt_of 3 rfl rfl rfl rfl rfl (by simp)) (by omega) hm) ?_)
         | (refine fzG (dst := some 64) (fun _ => eqLeg_gives w w _) (fun _ => FzLd (legAt_of 9 rfl rfl rfl rfl rfl (by simp))) (.bool _) ?_)
         | (refine callM (dst := some 74) (markLegA w 9 1 h _ (legAt_of 9 rfl rfl rfl rfl rfl (by simp)) (by omega) hm') ?_)
         | (refine fzS (dst := some 77) (heldLeg_gives w 1 _ (by omega) hm') (FzLm (legAt_of 9 rfl rfl rfl rfl (congrArg Ob.row (seqH_flat _ _)) (by simp))) (.int _ _) ?_)
         | (refine callXG (dst := some 85) (fun _ => toLeg_gives l _) ?_)
         | (refine callXG (dst := some 87) (fun _ => toHold_gives o _) ?_)
         | (refine callXP0 (dst := some 89) (by exact fun e => nomatch e) (fun h' hl' => hI h' (h.length + 14) (hl'.trans (by simp))) ?_)
         | (refine fzS (dst := some 94) (eqLeg_gives w w _) (FzLd (legAt_of 14 rfl rfl rfl rfl rfl (by simp))) (.bool _) ?_)
         | (refine fzS (dst := some 103) (heldLeg_gives w 1 _ (by omega) hm') (FzLm (legAt_of 9 rfl rfl rfl rfl (congrArg Ob.row (seqH_flat _ _)) (by simp))) (.int _ _) ?_)); simp -implicitDefEqProofs only [Leg.dv, Leg.dvc, Leg.rows, eqLegB_self, hmp, hmp', markH, bne_self_eq_false, push_cast, Nat.reduceEqDiff, Nat.reduceBEq, Nat.reduceBNe, Nat.reduceAdd, Nat.reduceMul, Nat.reduceLT, Nat.reduceLeDiff, Nat.reduceSub, reduceCtorEq, Int.reduceToNat, ↓reduceIte]))
  all_goals first
    | omega
    | exact .inr (by kernel_rfl)
    | trace_state
theorem fnExactLegHold_bad (l : Leg) (o : Hold) (s : Int) (h : Hp) (hb : legB l = false) : Gives Try.prog 15 [l.d, o.d, .int .i64 s] h (.bool true) := by
  have hS := fun g => specLegHold_gives l o s g
  have hI := fun g => implLegHold_gives l o s g
  have hX := fun g q => legHoldX_bad l o s (g := g) (q := q) hb
  simp only [heldV, heldB, hb, Bool.false_and, Bool.false_eq_true, if_false] at hS hI
  have hm1 : markE default 1 = 1 := rfl
  refine meets_of [] mixed Try.func15 rfl (by kernel_rfl) (by kernel_rfl) (by rw [Try.ntmps15]; simp only [List.length_cons, List.length_nil]; omega) (fun hf => ?_)
  rw [Try.results15]
  obtain ⟨_, _, _, hf1, hf2, hf3, hf4⟩ := Leg.fit (hf l.d (by simp))
  clear hf
  have hm : markE l 1 ≤ 4000000000000000000 := by simp only [markE]; omega
  have hmp : decide (markE l 1 < 0) = false := decide_eq_false (by simp only [markE]; omega)
  try simp -implicitDefEqProofs only [Leg.dv, Leg.dvc, Leg.rows, eqLegB_self, hmp, markH, hm1, bne_self_eq_false, push_cast, Nat.reduceEqDiff, Nat.reduceBEq, Nat.reduceBNe, Nat.reduceAdd, Nat.reduceMul, Nat.reduceLT, Nat.reduceLeDiff, Nat.reduceSub, reduceCtorEq, Int.reduceToNat, ↓reduceIte]
  repeat'
    (first
     | (refine uYes ?_; first | exact List.mem_cons_self | (simp only [List.mem_cons, List.not_mem_nil, or_false, true_or, or_true]; done))
     | (refine uNo (by kernel_rfl))
     | (refine flatMk ?_; kernel_rfl)
     | (refine And.intro ?_ ?_)
     | (intro hx)
     | ((first
         | (refine callGF ?_)
         | (refine callQGF ?_)
         | (refine skipG ?_)
         | (refine callS (szLeg_gives l _ _) ?_)
         | (refine callQ (szLeg_gives l _ _) ?_)
         | (refine callG (fun hc => (szLeg_gives l _ _)) ?_)
         | (refine callQG (fun hc => (szLeg_gives l _ _)) ?_)
         | (refine inX_mkP [h.length + 3, h.length + 3 + 1, h.length + 3 + 2, h.length + 3 + 3] (by kernel_rfl) (by lt_all) ?_)
         | (refine inX_mkS [] [h.length + 2] (by rfl) (by kernel_rfl) (by simp) ?_)
         | (refine callXG (dst := some 25) (fun _ => toLeg_gives l _) ?_)
         | (refine callXG (dst := some 27) (fun _ => toHold_gives o _) ?_)
         | (refine callXG (dst := some 29) (fun _ => hS _) ?_)
         | (refine callM (dst := some 33) (toLegR l _) ?_)
         | (refine callXG (dst := some 37) (fun _ => toHold_gives o _) ?_)
         | (refine callXP (dst := some 39) (R4 l (h.length + 3)) (by exact fun e => nomatch e) (by simp only [R4, List.mem_cons, List.not_mem_nil, or_false, forall_eq_or_imp, forall_eq, true_or, or_true, and_self]) (r4_at (legAt_of 3 rfl rfl rfl rfl rfl (by simp))) (hX _ _) ?_)
         | (refine callS (eqLeg_gives default default _) ?_)
         | (refine callQ (eqLeg_gives default default _) ?_)
         | (refine callG (fun hc => (eqLeg_gives default default _)) ?_)
         | (refine callQG (fun hc => (eqLeg_gives default default _)) ?_)
         | (refine callQ (dst := some 53) (toLeg_gives l _) ?_)
         | (refine fzQ (dst := some 54) (eqLeg_gives l l _) (FzLd (legAt_of 3 rfl rfl rfl rfl rfl (by simp))) (.bool _) ?_)
         | (refine callM (dst := some 58) (markLegA l 3 1 h _ (legAt_of 3 rfl rfl rfl rfl rfl (by simp)) (by omega) hm) ?_)
         | (refine callS (markLeg_nil _ _) ?_)
         | (refine callQ (markLeg_nil _ _) ?_)
         | (refine callG (fun hc => (markLeg_nil _ _)) ?_)
         | (refine callQG (fun hc => (markLeg_nil _ _)) ?_)
         | (refine callS (heldLeg_gives default 1 _ (by omega) (by omega)) ?_)
         | (refine callQ (heldLeg_gives default 1 _ (by omega) (by omega)) ?_)
         | (refine callG (fun hc => (heldLeg_gives default 1 _ (by omega) (by omega))) ?_)
         | (refine callQG (fun hc => (heldLeg_gives default 1 _ (by omega) (by omega))) ?_)
         | (refine callXG (dst := some 85) (fun _ => toLeg_gives l _) ?_)
         | (refine callXG (dst := some 87) (fun _ => toHold_gives o _) ?_)
         | (refine callXG (dst := some 89) (fun _ => hI _) ?_)); simp -implicitDefEqProofs only [Leg.dv, Leg.dvc, Leg.rows, eqLegB_self, hmp, markH, hm1, bne_self_eq_false, push_cast, Nat.reduceEqDiff, Nat.reduceBEq, Nat.reduceBNe, Nat.reduceAdd, Nat.reduceMul, Nat.reduceLT, Nat.reduceLeDiff, Nat.reduceSub, reduceCtorEq, Int.reduceToNat, ↓reduceIte]))
  all_goals first
    | omega
    | exact .inr (by kernel_rfl)
    | trace_state
theorem fnExactLegHold_gives (l : Leg) (o : Hold) (s : Int) (h : Hp) : Gives Try.prog 15 [l.d, o.d, .int .i64 s] h (.bool true) := by
  cases hb : legB l with
  | true => exact fnExactLegHold_ok l o s h hb
  | false => exact fnExactLegHold_bad l o s h hb
end Go.Proofs.Ytmehbbepppjikaa
