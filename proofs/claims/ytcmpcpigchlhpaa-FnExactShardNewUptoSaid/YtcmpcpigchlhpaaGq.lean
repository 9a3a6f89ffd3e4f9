/- Contracts of functions of the program (Gq). -/
import Derived.Test.YtcmpcpigchlhpaaGh
import Derived.Test.YtcmpcpigchlhpaaGo
import Derived.Test.YtcmpcpigchlhpaaEd
import Derived.Test.YtcmpcpigchlhpaaT1

namespace Go.Proofs.Ytcmpcpigchlhpaa
set_option linter.unusedSectionVars false
open Go.Av
variable [Av.Start]
set_option maxRecDepth 10000
set_option maxHeartbeats 1000000
set_option linter.unusedSimpArgs false
set_option linter.unusedVariables false

/-! A net as rows: the row of legs, and behind it the rows of each leg. -/
def netC : List Leg → Nat → List D
  | [], _ => []
  | l :: ls, q => l.dvc q ++ netC ls (q + 4)
def netR (ls : List Leg) : Hp := ls.flatMap Leg.rows
def zC : List D := [.str [], .str [], .str [], .int .i64 0, .int .i64 0, .int .i64 0, .slice [] .full, .slice [] .full, .slice [] .full, .slice [] .full]
omit [Av.Start] in
theorem zeros_succ (z : List D) (n : Nat) : zeros z (n + 1) = z ++ zeros z n := by rw [zeros, zeros, List.replicate_succ, List.flatten_cons]
omit [Av.Start] in
theorem dvc_len (l : Leg) (q : Nat) : (l.dvc q).length = 10 := rfl
omit [Av.Start] in
theorem netC_len : ∀ (ls : List Leg) (q : Nat), (netC ls q).length = ls.length * 10
  | [], _ => rfl
  | l :: ls, q => by rw [netC, List.length_append, netC_len ls, dvc_len, List.length_cons]; omega
omit [Av.Start] in
theorem netR_len : ∀ (ls : List Leg), (netR ls).length = ls.length * 4
  | [] => rfl
  | l :: ls => by
    show (l.rows ++ netR ls).length = _
    rw [List.length_append, netR_len ls, List.length_cons, Leg.rows_len]; omega
omit [Av.Start] in
theorem netC_app : ∀ (ls ms : List Leg) (q : Nat), netC (ls ++ ms) q = netC ls q ++ netC ms (q + 4 * ls.length)
  | [], ms, q => by simp [netC]
  | l :: ls, ms, q => by
    rw [List.cons_append, netC, netC, netC_app ls ms, List.append_assoc, List.length_cons, show q + 4 + 4 * ls.length = q + 4 * (ls.length + 1) by omega]
omit [Av.Start] in
theorem netR_app (ls ms : List Leg) : netR (ls ++ ms) = netR ls ++ netR ms := List.flatMap_append
omit [Av.Start] in
theorem netC_cl : ∀ (ls : List Leg) {q n : Nat}, q + 4 * ls.length ≤ n → ∀ d, d ∈ netC ls q → Cl n d
  | [], q, n, _, d, hd => nomatch hd
  | l :: ls, q, n, h, d, hd => by
    rw [List.length_cons] at h
    rcases List.mem_append.1 hd with hd | hd
    · exact l.dvc_cl (by omega) d hd
    · exact netC_cl ls (by omega) d hd
omit [Av.Start] in
theorem netR_cl (ls : List Leg) (n : Nat) : ∀ x, x ∈ netR ls → ObCl n x := fun x hx => by
  obtain ⟨l, _, hx⟩ := List.mem_flatMap.1 hx
  exact l.rows_cl n x hx
/-- the row of legs behind k rounds of toLegS -/
def fillNet (ls : List Leg) (q k : Nat) : List D := netC (ls.take k) q ++ zeros zC (ls.length - k)
omit [Av.Start] in
theorem fillNet_len (ls : List Leg) (q : Nat) {k : Nat} (hk : k ≤ ls.length) : (fillNet ls q k).length = ls.length * 10 := by
  rw [fillNet, List.length_append, netC_len, List.length_take, zeros_length]
  show min k ls.length * 10 + (ls.length - k) * 10 = _
  omega
omit [Av.Start] in
theorem take_succ_get {ls : List Leg} {k : Nat} (hk : k < ls.length) : ls.take (k + 1) = ls.take k ++ [ls.getD k default] := by
  rw [List.take_add_one, List.getD_eq_getElem?_getD, List.getElem?_eq_getElem hk]
  rfl
omit [Av.Start] in
theorem fillNet_step (ls : List Leg) (q : Nat) {k : Nat} (hk : k < ls.length) : (fillNet ls q k).take (k * 10) ++ ((ls.getD k default).dvc (q + 4 * k) ++ (fillNet ls q k).drop (k * 10 + 10)) = fillNet ls q (k + 1) := by
  have h1 : (netC (ls.take k) q).length = k * 10 := by rw [netC_len, List.length_take]; omega
  rw [fillNet, List.take_append_of_le_length (by omega), List.take_of_length_le (by omega), List.drop_append, List.drop_eq_nil_of_le (by omega), List.nil_append, h1, show k * 10 + 10 - k * 10 = 10 by omega,
    show ls.length - k = (ls.length - (k + 1)) + 1 by omega, zeros_succ, show (10 : Nat) = zC.length from rfl, List.drop_left, fillNet, take_succ_get hk, netC_app, List.length_take, Nat.min_eq_left (by omega), netC, netC, List.append_nil, List.append_assoc]
omit [Av.Start] in
theorem fillNet_full (ls : List Leg) (q : Nat) : fillNet ls q ls.length = netC ls q := by
  rw [fillNet, List.take_length, Nat.sub_self]
  simp [zeros]
omit [Av.Start] in
theorem zC_cl (n : Nat) : ∀ d, d ∈ zC → Cl n d := zLeg_cl n
omit [Av.Start] in
theorem fillNet_cl (ls : List Leg) {q n k : Nat} (hk : k ≤ ls.length) (h : q + 4 * k ≤ n) : ∀ d, d ∈ fillNet ls q k → Cl n d := fun d hd => by
  rcases List.mem_append.1 hd with hd | hd
  · exact netC_cl _ (by rw [List.length_take]; omega) d hd
  · exact zC_cl _ d (mem_zeros hd)
omit [Av.Start] in
theorem netR_take (ls : List Leg) {k : Nat} (hk : k < ls.length) : netR (ls.take k) ++ (ls.getD k default).rows = netR (ls.take (k + 1)) := by
  rw [take_succ_get hk, netR_app]
  simp [netR]
theorem toLegSR (net : List Leg) (h : Hp) : Meets Try.prog 12 [.slice (net.map Leg.d) .no] h fun d' h' => d' = .vec h.length true 10 0 net.length net.length ∧ h' = h ++ (.row (netC net (h.length + 1)) :: netR net) := by
  refine meets_of [] mixed Try.func12 rfl (by kernel_rfl) (by kernel_rfl) (by rw [Try.ntmps12]; simp only [List.length_cons, List.length_nil]; omega) (fun hf => ?_)
  rw [Try.results12]
  have hl : net.length ≤ 1073741824 := by simpa [fitsD, flen, lenMax] using hf
  clear hf
  try simp -implicitDefEqProofs only [push_cast, Nat.reduceEqDiff, Nat.reduceBEq, Nat.reduceBNe, Nat.reduceAdd, Nat.reduceMul, Nat.reduceLT, Nat.reduceLeDiff, Nat.reduceSub, reduceCtorEq, Int.reduceToNat, ↓reduceIte]
  repeat'
    (first
     | (refine uYes ?_; first | exact List.mem_cons_self | (simp only [List.mem_cons, List.not_mem_nil, or_false, true_or, or_true]; done))
     | (refine uNo (by kernel_rfl))
     | (refine flatMk ?_; kernel_rfl)
     | (refine And.intro ?_ ?_)
     | (intro hx)
     | ((first
         | (refine callGF ?_)
         | (refine callQGF ?_)
         | (refine skipG ?_)
         | (refine callS (in_gives _ _ _ _) ?_)
         | (refine callQ (in_gives _ _ _ _) ?_)
         | (refine callG (fun hc => (in_gives _ _ _ _)) ?_)
         | (refine callQG (fun hc => (in_gives _ _ _ _)) ?_)); simp -implicitDefEqProofs only [push_cast, Nat.reduceEqDiff, Nat.reduceBEq, Nat.reduceBNe, Nat.reduceAdd, Nat.reduceMul, Nat.reduceLT, Nat.reduceLeDiff, Nat.reduceSub, reduceCtorEq, Int.reduceToNat, ↓reduceIte]))
  all_goals try (simp only [lenMax]; omega)
  all_goals try omega
  refine ev_loop [] (fun k : Nat => [(0, .slice (net.map Leg.d) .no), (3, .vec h.length true 10 0 net.length net.length), (4, .int .i64 k)])
    (fun k => .row (fillNet net (h.length + 1) k) :: netR (net.take k)) (fun k => k ≤ net.length) (fun k => net.length - k) 0 trivial (Nat.zero_le _) ?_ ?_
  · refine ⟨1, by simp, by simp [tokSts], ?_⟩
    have h0 : netR (net.take 0) = [] := rfl
    have h1 : fillNet net (h.length + 1) 0 = zeros zC net.length := by simp [fillNet, netC]
    rw [h0, h1]
    simp -implicitDefEqProofs only [Int.natCast_add, Int.cast_ofNat_Int, List.length_nil, Nat.le_refl, WeakTo, tokSts, tokOks, List.append_cancel_left_eq, exists_eq_left', exists_eq_left, List.append_cancel_left_eq, List.take_length, ObCl, and_true, true_and, push_cast, Nat.reduceEqDiff, Nat.reduceBEq, Nat.reduceBNe, Nat.reduceAdd, Nat.reduceMul, Nat.reduceLT, Nat.reduceLeDiff, Nat.reduceSub, reduceCtorEq, Int.reduceToNat, ↓reduceIte, zC]
    exact fun d hd => zLeg_cl _ _ (mem_zeros hd)
  · intro k hk
    have hw : IntKind.i64.wrap ((k : Int) + 1) = k + 1 := wrap_id (by omega) (by omega)
    have hf := fillNet_len net (h.length + 1) hk
    have hr : (netR (net.take k)).length = 4 * k := by rw [netR_len, List.length_take]; omega
    have hrr := fun k => netR_cl (net.take k)
    rcases Nat.lt_or_ge k net.length with hlt | hge
    · have hL := leg_at hlt
      have hR := netR_take net hlt
      have hs := fillNet_step net (h.length + 1) hlt
      rw [show h.length + 1 + 4 * k = h.length + (4 * k + 1) by omega] at hs
      simp -implicitDefEqProofs only [Leg.dvc, push_cast, Nat.reduceEqDiff, Nat.reduceBEq, Nat.reduceBNe, Nat.reduceAdd, Nat.reduceMul, Nat.reduceLT, Nat.reduceLeDiff, Nat.reduceSub, reduceCtorEq, Int.reduceToNat, ↓reduceIte] at hs
      have hcl := fun n hn => fillNet_cl net (q := h.length + 1) (n := n) (k := k + 1) hlt hn
      try simp -implicitDefEqProofs only [hw, hf, hr, hL, Leg.dv, Leg.dvc, push_cast, Nat.reduceEqDiff, Nat.reduceBEq, Nat.reduceBNe, Nat.reduceAdd, Nat.reduceMul, Nat.reduceLT, Nat.reduceLeDiff, Nat.reduceSub, reduceCtorEq, Int.reduceToNat, ↓reduceIte]
      repeat'
        (first
         | (refine uYes ?_; first | exact List.mem_cons_self | (simp only [List.mem_cons, List.not_mem_nil, or_false, true_or, or_true]; done))
         | (refine uNo (by kernel_rfl))
         | (refine flatMk ?_; kernel_rfl)
         | (refine And.intro ?_ ?_)
         | (intro hx)
         | ((first
             | (refine callGF ?_)
             | (refine callQGF ?_)
             | (refine skipG ?_)
             | (refine callM (toLegR (net.getD k default) _) ?_)); simp -implicitDefEqProofs only [hw, hf, hr, hL, Leg.dv, Leg.dvc, push_cast, Nat.reduceEqDiff, Nat.reduceBEq, Nat.reduceBNe, Nat.reduceAdd, Nat.reduceMul, Nat.reduceLT, Nat.reduceLeDiff, Nat.reduceSub, reduceCtorEq, Int.reduceToNat, ↓reduceIte]))
      all_goals try omega
      all_goals first
        | (refine round_mk (k + 1) (by omega) (by omega) ?_
           have e1 : (netR (net.take (k + 1))).length = 4 * (k + 1) := by rw [netR_len, List.length_take]; omega
           simp -implicitDefEqProofs only [hw, hs, hR, Int.natCast_add, Int.cast_ofNat_Int, List.length_nil, Nat.le_refl, WeakTo, tokSts, tokOks, List.append_cancel_left_eq, exists_eq_left', exists_eq_left, List.append_cancel_left_eq, List.take_length, ObCl, and_true, true_and, push_cast, Nat.reduceEqDiff, Nat.reduceBEq, Nat.reduceBNe, Nat.reduceAdd, Nat.reduceMul, Nat.reduceLT, Nat.reduceLeDiff, Nat.reduceSub, reduceCtorEq, Int.reduceToNat, ↓reduceIte]
           exact ⟨by omega, ⟨hcl _ (by omega), netR_cl _ _⟩, by omega⟩)
        | trace_state
    · obtain rfl : k = net.length := by omega
      have hn := fillNet_full net (h.length + 1)
      have hr2 : (netR net).length = 4 * net.length := by rw [netR_len]; omega
      try simp -implicitDefEqProofs only [hw, hf, hr2, hn, List.take_length, push_cast, Nat.reduceEqDiff, Nat.reduceBEq, Nat.reduceBNe, Nat.reduceAdd, Nat.reduceMul, Nat.reduceLT, Nat.reduceLeDiff, Nat.reduceSub, reduceCtorEq, Int.reduceToNat, ↓reduceIte]
      repeat'
        (first
         | (refine uYes ?_; first | exact List.mem_cons_self | (simp only [List.mem_cons, List.not_mem_nil, or_false, true_or, or_true]; done))
         | (refine uNo (by kernel_rfl))
         | (refine flatMk ?_; kernel_rfl)
         | (refine And.intro ?_ ?_)
         | (intro hx)
         | ((first
             | (refine callGF ?_)
             | (refine callQGF ?_)
             | (refine skipG ?_)
             | (refine callM (toLegR (net.getD k default) _) ?_)); simp -implicitDefEqProofs only [hw, hf, hr2, hn, List.take_length, push_cast, Nat.reduceEqDiff, Nat.reduceBEq, Nat.reduceBNe, Nat.reduceAdd, Nat.reduceMul, Nat.reduceLT, Nat.reduceLeDiff, Nat.reduceSub, reduceCtorEq, Int.reduceToNat, ↓reduceIte]))
      all_goals first
        | omega
        | (rw [List.take_of_length_le (by omega)])
        | exact netC_cl _ (by omega) _ hx
        | exact netR_cl _ _ _ hx
        | trace_state
end Go.Proofs.Ytcmpcpigchlhpaa

namespace Go.Proofs.Ytcmpcpigchlhpaa
set_option linter.unusedSectionVars false
open Go.Av
variable [Av.Start]
set_option maxRecDepth 10000
set_option maxHeartbeats 1000000
set_option linter.unusedSimpArgs false
set_option linter.unusedVariables false

/-- the net's rows in a heap: the row of legs at q, the legs' rows from q + 1 on -/
structure NetAt (h : Hp) (q : Nat) (net : List Leg) : Prop where
  row : ob h q = .row (netC net (q + 1))
  legs : ∀ i, i < net.length → LegAt h (q + 1 + 4 * i) (net.getD i default)
omit [Av.Start] in
theorem frz_of {n : Nat} {h : Hp} {r : Nat} {ag : Bool} {sz off len cp : Nat} {es : List D} (H : FW n h (.vec r ag sz off len cp) (.slice es .no)) : Frz n h (.vec r ag sz off len cp) (.slice es .no) := by
  obtain ⟨⟨k1, k2, k3, k4, k5, k6⟩, rfl⟩ := (fw_vec _ _ _ _ _ _ _ _ _).1 H
  exact .vec r ag sz off len cp k1 k2 k3 k4 k5 k6
def FrzL (h : Hp) (cs cs' : List D) : Prop := cs'.length = cs.length ∧ ∀ k (h1 : k < cs.length) (h2 : k < cs'.length), Frz 0 h (cs[k]) (cs'[k])
omit [Av.Start] in
theorem FrzL.app {h : Hp} {a a' b b' : List D} (H : FrzL h a a') (K : FrzL h b b') : FrzL h (a ++ b) (a' ++ b') := by
  have e := H.1
  refine ⟨by rw [List.length_append, List.length_append, H.1, K.1], fun k h1 h2 => ?_⟩
  by_cases hk : k < a.length
  · rw [List.getElem_append_left hk, List.getElem_append_left (by omega)]
    exact H.2 k hk (by omega)
  · rw [List.getElem_append_right (by omega), List.getElem_append_right (by omega)]
    have hk2 : k - a.length < b.length := by rw [List.length_append] at h1; omega
    have := K.2 (k - a.length) hk2 (by rw [K.1]; exact hk2)
    simpa [e] using this
omit [Av.Start] in
theorem LegAt.frz {h : Hp} {q : Nat} {l : Leg} (H : LegAt h q l) : FrzL h (l.dvc q) l.cs := by
  refine ⟨rfl, fun k h1 h2 => ?_⟩
  have hF := (fw_agg _ _ _ _).1 H.fw
  obtain ⟨_, _, _, _, _, _, f1, f2, f3, f4, _⟩ := hF
  match k, h2 with
  | 0, _ => exact .refl _
  | 1, _ => exact .refl _
  | 2, _ => exact .refl _
  | 3, _ => exact .refl _
  | 4, _ => exact .refl _
  | 5, _ => exact .refl _
  | 6, _ => exact frz_of f1
  | 7, _ => exact frz_of f2
  | 8, _ => exact frz_of f3
  | 9, _ => exact frz_of f4
omit [Av.Start] in
theorem net_frz {h : Hp} : ∀ (net : List Leg) (q : Nat), (∀ i, i < net.length → LegAt h (q + 4 * i) (net.getD i default)) → FrzL h (netC net q) (net.flatMap Leg.cs)
  | [], q, _ => ⟨rfl, fun k h1 => nomatch h1⟩
  | l :: ls, q, H => by
    rw [netC, List.flatMap_cons]
    refine FrzL.app (by simpa using (H 0 (by simp)).frz) (net_frz ls (q + 4) fun i hi => ?_)
    have := H (i + 1) (by simpa using hi)
    rw [show q + 4 + 4 * i = q + 4 * (i + 1) by omega]
    simpa using this
omit [Av.Start] in
theorem NetAt.fw {h : Hp} {q : Nat} {net : List Leg} (H : NetAt h q net) : FWN 0 h (.vec q true 10 0 net.length net.length) (.slice (net.map Leg.d) .no) := by
  have hp : rowPart h q 10 0 net.length = netC net (q + 1) := by
    rw [rowPart, H.row]
    simp only [rowOf]
    rw [Nat.zero_mul, List.drop_zero, List.take_of_length_le (by rw [netC_len]; exact Nat.le_refl _)]
  obtain ⟨k1, k2⟩ := net_frz net (q + 1) H.legs
  refine ⟨.slice (chunk true 10 net.length (net.flatMap Leg.cs)) .no, .vec q true 10 0 net.length net.length (net.flatMap Leg.cs) (Nat.zero_le _) (by rw [H.row]; trivial) (by rw [H.row]; simp only [rowOf, netC_len]; omega) (by rw [hp]; exact k1) ?_ (legs_cl net 0) (by omega) (fun e => nomatch e), by rw [legs_chunk net _ rfl]; exact .refl _⟩
  simp only [hp]
  exact k2
omit [Av.Start] in
theorem netR_get : ∀ (net : List Leg) (i j : Nat), i < net.length → j < 4 → (netR net)[4 * i + j]? = (net.getD i default).rows[j]?
  | [], i, j, h, _ => absurd h (by simp)
  | l :: ls, 0, j, h, hj => by
    show (l.rows ++ netR ls)[4 * 0 + j]? = _
    rw [List.getElem?_append_left (by rw [Leg.rows_len]; omega)]
    simp
  | l :: ls, i + 1, j, h, hj => by
    show (l.rows ++ netR ls)[4 * (i + 1) + j]? = _
    rw [List.getElem?_append_right (by rw [Leg.rows_len]; omega), Leg.rows_len, show 4 * (i + 1) + j - 4 = 4 * i + j by omega, netR_get ls i j (by simpa using h) hj]
    simp
omit [Av.Start] in
/-- behind toLegS -/
theorem netAt_new (net : List Leg) (h tl : Hp) : NetAt (h ++ (.row (netC net (h.length + 1)) :: netR net ++ tl)) h.length net := by
  refine ⟨by rw [show h.length = h.length + 0 from rfl, ob_app]; rfl, fun i hi => ?_⟩
  have hl := netR_len net
  have key : ∀ j, j < 4 → (h ++ (.row (netC net (h.length + 1)) :: netR net ++ tl))[h.length + 1 + 4 * i + j]? = (net.getD i default).rows[j]? := fun j hj => by
    rw [List.getElem?_append_right (by omega), List.cons_append, show h.length + 1 + 4 * i + j - h.length = (4 * i + j) + 1 by omega, List.getElem?_cons_succ, List.getElem?_append_left (by omega), netR_get net i j hi hj]
  refine ⟨ob_of (key 0 (by omega)), ob_of (key 1 (by omega)), ob_of (key 2 (by omega)), ob_of (key 3 (by omega)), ?_⟩
  simp only [List.length_append, List.length_cons]
  omega
end Go.Proofs.Ytcmpcpigchlhpaa

namespace Go.Proofs.Ytcmpcpigchlhpaa
set_option linter.unusedSectionVars false
open Go.Av
variable [Av.Start]
set_option maxRecDepth 10000
set_option maxHeartbeats 1000000
set_option linter.unusedSimpArgs false
set_option linter.unusedVariables false

/-- the next mark, behind the first i legs -/
def kAt (net : List Leg) (k0 : Int) (i : Nat) : Int := (net.take i).foldl (fun k l => markE l (k + 6)) k0
omit [Av.Start] in
theorem kAt_zero (net : List Leg) (k0 : Int) : kAt net k0 0 = k0 := rfl
omit [Av.Start] in
theorem kAt_succ {net : List Leg} (k0 : Int) {i : Nat} (hi : i < net.length) : kAt net k0 (i + 1) = markE (net.getD i default) (kAt net k0 i + 6) := by
  rw [kAt, take_succ_get hi, List.foldl_append]
  rfl
omit [Av.Start] in
theorem markE_ge (l : Leg) (k : Int) : k ≤ markE l k := by simp only [markE]; omega
omit [Av.Start] in
theorem kAt_le {net : List Leg} {k0 : Int} : ∀ (d : Nat) {i : Nat}, i + d ≤ net.length → kAt net k0 i + 6 * d ≤ kAt net k0 (i + d)
  | 0, i, _ => by simp
  | d + 1, i, h => by
    have h1 := kAt_le (net := net) (k0 := k0) d (i := i) (by omega)
    have h2 := kAt_succ (net := net) k0 (i := i + d) (by omega)
    have h3 := markE_ge (net.getD (i + d) default) (kAt net k0 (i + d) + 6)
    rw [show i + (d + 1) = i + d + 1 by omega, h2]
    push_cast
    omega
structure MI (g : Hp) (q : Nat) (net : List Leg) (x : Nat × Hp) : Prop where
  le : x.1 ≤ net.length
  len : x.2.length = g.length
  out : ∀ r : Nat, (r < q ∨ q + 4 * net.length < r) → x.2[r]? = g[r]?
  row : ∃ cs, ob x.2 q = .row cs ∧ cs.length = net.length * 10 ∧ ∀ j, x.1 ≤ j → j < net.length → ∀ c, c < 4 → cs.getD (j * 10 + (6 + c)) .junk = ((net.getD j default).dvc (q + 1 + 4 * j)).getD (6 + c) .junk
  legs : ∀ j, x.1 ≤ j → j < net.length → LegAt x.2 (q + 1 + 4 * j) (net.getD j default)
  clo : ∀ (r : Nat) z, x.2[r]? = some z → ObCl x.2.length z
omit [Av.Start] in
theorem netC_getD : ∀ (net : List Leg) (q j c : Nat), j < net.length → c < 10 → (netC net q).getD (j * 10 + c) .junk = ((net.getD j default).dvc (q + 4 * j)).getD c .junk
  | [], _, j, _, h, _ => absurd h (by simp)
  | l :: ls, q, 0, c, h, hc => by
    rw [netC, List.getD_eq_getElem?_getD, List.getElem?_append_left (by rw [dvc_len]; omega)]
    simp [List.getD_eq_getElem?_getD]
  | l :: ls, q, j + 1, c, h, hc => by
    have := netC_getD ls (q + 4) j c (by simpa using h) hc
    rw [netC, List.getD_eq_getElem?_getD, List.getElem?_append_right (by rw [dvc_len]; omega), dvc_len, show (j + 1) * 10 + c - 10 = j * 10 + c by omega, ← List.getD_eq_getElem?_getD, this, show q + 4 + 4 * j = q + 4 * (j + 1) by omega]
    simp
omit [Av.Start] in
theorem set_splice {cs : List D} {p : Nat} (hp : p < cs.length) (x : D) : cs.take p ++ x :: cs.drop (p + 1) = cs.set p x := by rw [List.set_eq_take_append_cons_drop, if_pos hp]
omit [Av.Start] in
theorem splice6 (cs : List D) (p : Nat) (hp : p + 6 ≤ cs.length) (x0 x1 x2 x3 x4 x5 : D) : ∃ c1 c2 c3 c4 c5 c6 : List D, (cs.take p ++ x0 :: cs.drop (p + 1) = c1 ∧ c1.take (p + 1) ++ x1 :: c1.drop (p + 1 + 1) = c2 ∧ c2.take (p + 2) ++ x2 :: c2.drop (p + 2 + 1) = c3 ∧
    c3.take (p + 3) ++ x3 :: c3.drop (p + 3 + 1) = c4 ∧ c4.take (p + 4) ++ x4 :: c4.drop (p + 4 + 1) = c5 ∧ c5.take (p + 5) ++ x5 :: c5.drop (p + 5 + 1) = c6) ∧
    (c1.length = cs.length ∧ c2.length = cs.length ∧ c3.length = cs.length ∧ c4.length = cs.length ∧ c5.length = cs.length ∧ c6.length = cs.length) ∧ (∀ m, p + 6 ≤ m → c6.getD m .junk = cs.getD m .junk) ∧ ∀ d, d ∈ c6 → d ∈ cs ∨ d = x0 ∨ d = x1 ∨ d = x2 ∨ d = x3 ∨ d = x4 ∨ d = x5 := by
  refine ⟨cs.set p x0, (cs.set p x0).set (p + 1) x1, ((cs.set p x0).set (p + 1) x1).set (p + 2) x2, (((cs.set p x0).set (p + 1) x1).set (p + 2) x2).set (p + 3) x3, ((((cs.set p x0).set (p + 1) x1).set (p + 2) x2).set (p + 3) x3).set (p + 4) x4,
    (((((cs.set p x0).set (p + 1) x1).set (p + 2) x2).set (p + 3) x3).set (p + 4) x4).set (p + 5) x5, ⟨?_, ?_, ?_, ?_, ?_, ?_⟩, ⟨by simp, by simp, by simp, by simp, by simp, by simp⟩, fun m hm => ?_, fun d hd => ?_⟩
  · exact set_splice (by omega) x0
  · exact set_splice (by simp; omega) x1
  · exact set_splice (by simp; omega) x2
  · exact set_splice (by simp; omega) x3
  · exact set_splice (by simp; omega) x4
  · exact set_splice (by simp; omega) x5
  · simp only [List.getD_eq_getElem?_getD]
    rw [List.getElem?_set_ne (by omega), List.getElem?_set_ne (by omega), List.getElem?_set_ne (by omega), List.getElem?_set_ne (by omega), List.getElem?_set_ne (by omega), List.getElem?_set_ne (by omega)]
  · rcases List.mem_or_eq_of_mem_set hd with hd | hd
    · rcases List.mem_or_eq_of_mem_set hd with hd | hd
      · rcases List.mem_or_eq_of_mem_set hd with hd | hd
        · rcases List.mem_or_eq_of_mem_set hd with hd | hd
          · rcases List.mem_or_eq_of_mem_set hd with hd | hd
            · rcases List.mem_or_eq_of_mem_set hd with hd | hd
              · exact .inl hd
              · exact .inr (.inl hd)
            · exact .inr (.inr (.inl hd))
          · exact .inr (.inr (.inr (.inl hd)))
        · exact .inr (.inr (.inr (.inr (.inl hd))))
      · exact .inr (.inr (.inr (.inr (.inr (.inl hd)))))
    · exact .inr (.inr (.inr (.inr (.inr (.inr hd)))))
omit [Av.Start] in
theorem drop_headD (cs : List D) (p : Nat) : (cs.drop p).headD .junk = cs.getD p .junk := by
  rw [List.headD_eq_head?_getD, List.head?_drop, List.getD_eq_getElem?_getD]
omit [Av.Start] in
theorem LegAt.keep {h g : Hp} {q : Nat} {l : Leg} (H : LegAt h q l) (hl : g.length = h.length) (e : ∀ r, q ≤ r → r < q + 4 → ob g r = ob h r) : LegAt g q l :=
  ⟨(e q (by omega) (by omega)).trans H.limits, (e (q + 1) (by omega) (by omega)).trans H.sold, (e (q + 2) (by omega) (by omega)).trans H.bids, (e (q + 3) (by omega) (by omega)).trans H.holds, by rw [hl]; exact H.lt⟩
theorem markLegSE (net : List Leg) (q : Nat) (g : Hp) (k0 : Int) (H : NetAt g q net) (hql : q < g.length) (h0 : 0 ≤ k0) (hB : kAt net k0 net.length ≤ 4000000000000000000) :
    Meets Try.prog 16 [.vec q true 10 0 net.length net.length, .int .i64 k0] g fun d' h' => d' = .int .i64 (kAt net k0 net.length) ∧ h'.length = g.length ∧ ∀ r : Nat, (r < q ∨ q + 4 * net.length < r) → h'[r]? = g[r]? := by
  refine meets_ofC [] mixed Try.func16 rfl (by kernel_rfl) (by kernel_rfl) (by rw [Try.ntmps16]; simp only [List.length_cons, List.length_nil]; omega) (fun hf hcl => ?_)
  rw [Try.results16]
  have hl := kAt_le (net := net) (k0 := k0) net.length (i := 0) (by omega)
  rw [kAt_zero, Nat.zero_add] at hl
  clear hf
  simp -implicitDefEqProofs only [push_cast, Nat.reduceEqDiff, Nat.reduceBEq, Nat.reduceBNe, Nat.reduceAdd, Nat.reduceMul, Nat.reduceLT, Nat.reduceLeDiff, Nat.reduceSub, reduceCtorEq, Int.reduceToNat, ↓reduceIte]
  refine ev_loopE (fun x : Nat × Hp => [(0, .vec q true 10 0 net.length net.length), (1, .int .i64 (kAt net k0 x.1)), (5, .int .i64 x.1)]) (fun x => x.2) (MI g q net) (fun x => net.length - x.1) (0, g) ?_ rfl ?_ ?_
  · refine ⟨Nat.zero_le _, rfl, fun _ _ => rfl, ⟨_, H.row, netC_len _ _, fun j _ hj c hc => netC_getD net (q + 1) j (6 + c) hj (by omega)⟩, fun j _ hj => H.legs j hj, hcl⟩
  · simp -implicitDefEqProofs only [SlotsOk, Int.natCast_add, Int.cast_ofNat_Int, List.length_nil, Nat.le_refl, WeakTo, tokSts, tokOks, List.append_cancel_left_eq, exists_eq_left', exists_eq_left, List.append_cancel_left_eq, List.take_length, ObCl, and_true, true_and, push_cast, Nat.reduceEqDiff, Nat.reduceBEq, Nat.reduceBNe, Nat.reduceAdd, Nat.reduceMul, Nat.reduceLT, Nat.reduceLeDiff, Nat.reduceSub, reduceCtorEq, Int.reduceToNat, ↓reduceIte, kAt_zero]
    exact hql
  · rintro ⟨i, hp⟩ ⟨h1, h2, h3, ⟨cs, h4, h5, h6⟩, h7, h8⟩
    simp only at h1 h2 h3 h4 h5 h6 h7 h8
    have hw : IntKind.i64.wrap ((i : Int) + 1) = i + 1 := wrap_id (by omega) (by omega)
    have hset : ∀ x, ob (hp.set q x) q = x := fun x => by simp [ob, List.getD_eq_getElem?_getD, h2, hql]
    by_cases hi : i < net.length
    · have kb := kAt_le (net := net) (k0 := k0) i (i := 0) (by omega)
      have kn := kAt_le (net := net) (k0 := k0) (net.length - (i + 1)) (i := i + 1) (by omega)
      rw [kAt_zero, Nat.zero_add] at kb
      rw [show i + 1 + (net.length - (i + 1)) = net.length by omega, kAt_succ k0 hi] at kn
      have hle := h7 i (Nat.le_refl _) hi
      have hr6 := h6 i (Nat.le_refl _) hi
      generalize hl' : net.getD i default = l at kn hle hr6
      have hks := kAt_succ k0 hi
      rw [hl'] at hks
      generalize kAt net k0 i = k at kb kn hks
      simp only [markE] at kn
      have w1 : IntKind.i64.wrap (k + 1) = k + 1 := wrap_id (by omega) (by omega)
      have w2 : IntKind.i64.wrap (k + 1 + 1) = k + 2 := by rw [wrap_id (by omega) (by omega)]; omega
      have w3 : IntKind.i64.wrap (k + 2 + 1) = k + 3 := by rw [wrap_id (by omega) (by omega)]; omega
      have w4 : IntKind.i64.wrap (k + 3 + 1) = k + 4 := by rw [wrap_id (by omega) (by omega)]; omega
      have w5 : IntKind.i64.wrap (k + 4 + 1) = k + 5 := by rw [wrap_id (by omega) (by omega)]; omega
      have w6 : IntKind.i64.wrap (k + 5 + 1) = k + 6 := by rw [wrap_id (by omega) (by omega)]; omega
      obtain ⟨c1, c2, c3, c4, c5, c6, ⟨s0, s1, s2, s3, s4, s5⟩, ⟨n1, n2, n3, n4, n5, n6⟩, sg, sm⟩ := splice6 cs (i * 10) (by omega) (.str (markT k)) (.str (markT (k + 1))) (.str (markT (k + 2))) (.int .i64 (k + 3)) (.int .i64 (k + 4)) (.int .i64 (k + 5))
      rw [h5] at n1 n2 n3 n4 n5 n6
      obtain ⟨a, ha⟩ : ∃ a, a = q + 1 + 4 * i := ⟨_, rfl⟩
      rw [← ha] at hle hr6
      have g6 : (c6.drop (i * 10 + 6)).headD .junk = .vec a false 1 0 l.limits.length l.limits.length := by rw [drop_headD, sg _ (by omega)]; exact hr6 0 (by omega)
      have g7 : (c6.drop (i * 10 + 7)).headD .junk = .vec (a + 1) false 1 0 l.sold.length l.sold.length := by rw [drop_headD, sg _ (by omega)]; exact hr6 1 (by omega)
      have g8 : (c6.drop (i * 10 + 8)).headD .junk = .vec (a + 2) false 1 0 l.bids.length l.bids.length := by rw [drop_headD, sg _ (by omega)]; exact hr6 2 (by omega)
      have g9 : (c6.drop (i * 10 + 9)).headD .junk = .vec (a + 3) true 3 0 l.holds.length l.holds.length := by rw [drop_headD, sg _ (by omega)]; exact hr6 3 (by omega)
      have hq2 : q < hp.length := by omega
      have halt := hle.lt
      obtain ⟨e1, e2, e3, e4, _⟩ := hle
      have o1 : ∀ X Y, ob ((hp.set q X).set a Y) q = X := fun X Y => by rw [ob_set_ne (by omega), ob_set_eq hq2]
      have o2 : ∀ X Y Z, ob (((hp.set q X).set a Y).set (a + 1) Z) q = X := fun X Y Z => by rw [ob_set_ne (by omega), o1]
      have o3 : ∀ X Y Z U, ob ((((hp.set q X).set a Y).set (a + 1) Z).set (a + 2) U) q = X := fun X Y Z U => by rw [ob_set_ne (by omega), o2]
      have hn : (l.holds.flatMap Hold.cs).length = l.holds.length * 3 := flatMap_length (f := Hold.cs) (m := 3) (fun _ => rfl) _
      try simp -implicitDefEqProofs only [h4, h5, hset, hw, w1, w2, w3, w4, w5, w6, s0, s1, s2, s3, s4, s5, n1, n2, n3, n4, n5, n6, g6, g7, g8, g9, o1, o2, o3, List.length_set, List.set_set, push_cast, Nat.reduceEqDiff, Nat.reduceBEq, Nat.reduceBNe, Nat.reduceAdd, Nat.reduceMul, Nat.reduceLT, Nat.reduceLeDiff, Nat.reduceSub, reduceCtorEq, Int.reduceToNat, ↓reduceIte]
      repeat'
        (first
         | (refine uYes ?_; first | exact List.mem_cons_self | (simp only [List.mem_cons, List.not_mem_nil, or_false, true_or, or_true]; done))
         | (refine uNo (by kernel_rfl))
         | (refine flatMk ?_; kernel_rfl)
         | (refine And.intro ?_ ?_)
         | (intro hx)
         | ((first
             | (refine callGF ?_)
             | (refine callQGF ?_)
             | (refine skipG ?_)
             | (refine callS (markText_gives k _ (by omega)) ?_)
             | (refine callQ (markText_gives k _ (by omega)) ?_)
             | (refine callG (fun hc => (markText_gives k _ (by omega))) ?_)
             | (refine callQG (fun hc => (markText_gives k _ (by omega))) ?_)
             | (refine callS (markText_gives (k + 1) _ (by omega)) ?_)
             | (refine callQ (markText_gives (k + 1) _ (by omega)) ?_)
             | (refine callG (fun hc => (markText_gives (k + 1) _ (by omega))) ?_)
             | (refine callQG (fun hc => (markText_gives (k + 1) _ (by omega))) ?_)
             | (refine callS (markText_gives (k + 2) _ (by omega)) ?_)
             | (refine callQ (markText_gives (k + 2) _ (by omega)) ?_)
             | (refine callG (fun hc => (markText_gives (k + 2) _ (by omega))) ?_)
             | (refine callQG (fun hc => (markText_gives (k + 2) _ (by omega))) ?_)
             | (refine callM (markIntSR (k + 6) _ a _ _ _ (by rw [ob_set_ne (by omega)]; exact e1) (by simp; omega) (by simp) (ints_cl _ _) (by omega) (by omega)) ?_)
             | (refine callM (markIntSR (k + 6 + l.limits.length) _ (a + 1) _ _ _ (by rw [ob_set_ne (by omega), ob_set_ne (by omega)]; exact e2) (by simp; omega) (by simp) (ints_cl _ _) (by omega) (by omega)) ?_)
             | (refine callM (markIntSR (k + 6 + l.limits.length + l.sold.length) _ (a + 2) _ _ _ (by rw [ob_set_ne (by omega), ob_set_ne (by omega), ob_set_ne (by omega)]; exact e3) (by simp; omega) (by simp) (ints_cl _ _) (by omega) (by omega)) ?_)
             | (refine callM (markHoldSR (k + 6 + l.limits.length + l.sold.length + l.bids.length) _ (a + 3) _ _ _ (by rw [ob_set_ne (by omega), ob_set_ne (by omega), ob_set_ne (by omega), ob_set_ne (by omega)]; exact e4) (by simp; omega) hn.symm (holds_cl _ _) (by omega) (by omega)) ?_)); simp -implicitDefEqProofs only [h4, h5, hset, hw, w1, w2, w3, w4, w5, w6, s0, s1, s2, s3, s4, s5, n1, n2, n3, n4, n5, n6, g6, g7, g8, g9, o1, o2, o3, List.length_set, List.set_set, push_cast, Nat.reduceEqDiff, Nat.reduceBEq, Nat.reduceBNe, Nat.reduceAdd, Nat.reduceMul, Nat.reduceLT, Nat.reduceLeDiff, Nat.reduceSub, reduceCtorEq, Int.reduceToNat, ↓reduceIte]))
      all_goals first
        | omega
        | skip
      have hs4 : ∀ X Y Z U V (r : Nat), r ≠ q → r ≠ a → r ≠ a + 1 → r ≠ a + 2 → r ≠ a + 3 → (((((hp.set q X).set a Y).set (a + 1) Z).set (a + 2) U).set (a + 3) V)[r]? = hp[r]? := fun X Y Z U V r b0 b1 b2 b3 b4 => by
        rw [List.getElem?_set_ne (Ne.symm b4), List.getElem?_set_ne (Ne.symm b3), List.getElem?_set_ne (Ne.symm b2), List.getElem?_set_ne (Ne.symm b1), List.getElem?_set_ne (Ne.symm b0)]
      have o4 : ∀ X Y Z U V, ob (((((hp.set q X).set a Y).set (a + 1) Z).set (a + 2) U).set (a + 3) V) q = X := fun X Y Z U V => by rw [ob_set_ne (by omega), o3]
      have hc6 : ∀ d, d ∈ c6 → Cl hp.length d := fun d hd => by
        rcases sm d hd with hd | rfl | rfl | rfl | rfl | rfl | rfl
        · have := h8 q _ (ob_some h4)
          exact this d hd
        all_goals first
          | exact .str _
          | exact .int _ _
      have hclo : ∀ (r : Nat) z, (((((hp.set q (.row c6)).set a (.row ((seqI (k + 6) l.limits.length).map (.int .i64)))).set (a + 1) (.row ((seqI (k + 6 + l.limits.length) l.sold.length).map (.int .i64)))).set (a + 2) (.row ((seqI (k + 6 + l.limits.length + l.sold.length) l.bids.length).map (.int .i64)))).set (a + 3) (.row ((seqI (k + 6 + l.limits.length + l.sold.length + l.bids.length) (l.holds.length * 3)).map (.int .i64))))[r]? = some z → ObCl hp.length z := fun r z hz => by
        have := old_set (old_set (old_set (old_set (old_set (old_id hp hp.length) q (x := .row c6) hc6) a (cl_ints (seqI (k + 6) l.limits.length) hp.length)) (a + 1) (cl_ints (seqI (k + 6 + l.limits.length) l.sold.length) hp.length)) (a + 2) (cl_ints (seqI (k + 6 + l.limits.length + l.sold.length) l.bids.length) hp.length)) (a + 3) (cl_ints (seqI (k + 6 + l.limits.length + l.sold.length + l.bids.length) (l.holds.length * 3)) hp.length) r z hz
        rcases this with e | e
        · exact h8 r z e
        · exact e
      refine round_mkE (i + 1, _) ⟨hi, by simp only [List.length_set]; exact h2, fun r hr => ?_, ⟨c6, o4 _ _ _ _ _, n6, fun j hj1 hj2 c hc => ?_⟩, fun j hj1 hj2 => ?_, ?_⟩ (by simp only; omega) rfl (by simp only [List.length_set]) (fun r z hz => .inr ?_) ?_
      · rw [← h3 r hr]
        exact hs4 _ _ _ _ _ r (by omega) (by omega) (by omega) (by omega) (by omega)
      · rw [sg _ (by simp only at hj1; omega)]
        exact h6 j (by simp only at hj1; omega) hj2 c hc
      · refine (h7 j (by simp only at hj1; omega) hj2).keep (by simp only [List.length_set]) fun r r0 r1 => ?_
        simp only at hj1
        have := hs4 (.row c6) (.row ((seqI (k + 6) l.limits.length).map (.int .i64))) (.row ((seqI (k + 6 + l.limits.length) l.sold.length).map (.int .i64))) (.row ((seqI (k + 6 + l.limits.length + l.sold.length) l.bids.length).map (.int .i64))) (.row ((seqI (k + 6 + l.limits.length + l.sold.length + l.bids.length) (l.holds.length * 3)).map (.int .i64))) r (by omega) (by omega) (by omega) (by omega) (by omega)
        simp only [ob, List.getD_eq_getElem?_getD, this]
      · simp only [List.length_set]
        exact hclo
      · simp only [List.length_set]
        exact hclo r z hz
      · simp -implicitDefEqProofs only [SlotsOk, hw, hks, markE, List.length_set, Int.natCast_add, Int.cast_ofNat_Int, List.length_nil, Nat.le_refl, WeakTo, tokSts, tokOks, List.append_cancel_left_eq, exists_eq_left', exists_eq_left, List.append_cancel_left_eq, List.take_length, ObCl, and_true, true_and, push_cast, Nat.reduceEqDiff, Nat.reduceBEq, Nat.reduceBNe, Nat.reduceAdd, Nat.reduceMul, Nat.reduceLT, Nat.reduceLeDiff, Nat.reduceSub, reduceCtorEq, Int.reduceToNat, ↓reduceIte]
        omega
    · obtain rfl : i = net.length := by omega
      try simp -implicitDefEqProofs only [hw, push_cast, Nat.reduceEqDiff, Nat.reduceBEq, Nat.reduceBNe, Nat.reduceAdd, Nat.reduceMul, Nat.reduceLT, Nat.reduceLeDiff, Nat.reduceSub, reduceCtorEq, Int.reduceToNat, ↓reduceIte]
      repeat'
        (first
         | (refine uYes ?_; first | exact List.mem_cons_self | (simp only [List.mem_cons, List.not_mem_nil, or_false, true_or, or_true]; done))
         | (refine uNo (by kernel_rfl))
         | (refine flatMk ?_; kernel_rfl)
         | (refine And.intro ?_ ?_)
         | (intro hx)
         | ((first
             | (refine callGF ?_)
             | (refine callQGF ?_)
             | (refine skipG ?_)
             | (refine callS (in_gives _ _ _ _) ?_)
             | (refine callQ (in_gives _ _ _ _) ?_)
             | (refine callG (fun hc => (in_gives _ _ _ _)) ?_)
             | (refine callQG (fun hc => (in_gives _ _ _ _)) ?_)); simp -implicitDefEqProofs only [hw, push_cast, Nat.reduceEqDiff, Nat.reduceBEq, Nat.reduceBNe, Nat.reduceAdd, Nat.reduceMul, Nat.reduceLT, Nat.reduceLeDiff, Nat.reduceSub, reduceCtorEq, Int.reduceToNat, ↓reduceIte]))
      all_goals first
        | omega
        | skip
      · rw [List.mem_singleton.1 hx]
        trivial
      · exact ⟨_, .int .i64 (kAt net k0 net.length), hp, .refl _, .refl _, .int _ _, ⟨Nat.le_of_eq h2.symm, Nat.le_refl _, List.take_length, fun r x hx => .inr (h8 r x hx)⟩, rfl, h2, h3⟩
end Go.Proofs.Ytcmpcpigchlhpaa

namespace Go.Proofs.Ytcmpcpigchlhpaa
set_option linter.unusedSectionVars false
open Go.Av
variable [Av.Start]
set_option maxRecDepth 10000
set_option maxHeartbeats 1000000
set_option linter.unusedSimpArgs false
set_option linter.unusedVariables false

/-! Rows of texts: compared, marked, held. -/
/-- n marked texts in a row, from k on -/
def seqT (k : Int) : Nat → List (List UInt8)
  | 0 => []
  | n + 1 => seqT k n ++ [markT (k + n)]
omit [Av.Start] in
theorem seqT_len (k : Int) : ∀ n, (seqT k n).length = n
  | 0 => rfl
  | n + 1 => by rw [seqT, List.length_append, seqT_len k n]; rfl
omit [Av.Start] in
theorem seqT_get (k : Int) : ∀ {n j : Nat}, j < n → (seqT k n).getD j [] = markT (k + j)
  | n + 1, j, h => by
    rw [seqT]
    by_cases e : j < n
    · rw [getD_app_lt _ (by rw [seqT_len]; exact e), seqT_get k e]
    · obtain rfl : j = n := by omega
      rw [getD_app_at _ (by rw [seqT_len])]
def mkRowT (k : Int) (cs : List D) (j : Nat) : List D := (seqT k j).map .str ++ cs.drop j
omit [Av.Start] in
theorem mkRowT_len (k : Int) (cs : List D) {j : Nat} (hj : j ≤ cs.length) : (mkRowT k cs j).length = cs.length := by
  rw [mkRowT, List.length_append, List.length_map, seqT_len, List.length_drop]
  omega
omit [Av.Start] in
theorem mkRowT_step (k : Int) (cs : List D) {j : Nat} {v : Int} (hj : j < cs.length) (hv : v = k + j) : (mkRowT k cs j).take j ++ D.str (markT v) :: (mkRowT k cs j).drop (j + 1) = mkRowT k cs (j + 1) := by
  subst hv
  have hl : ((seqT k j).map D.str).length = j := by rw [List.length_map, seqT_len]
  rw [mkRowT, List.take_append_of_le_length (by omega), List.take_of_length_le (by omega), List.drop_append, List.drop_eq_nil_of_le (by omega), List.nil_append, hl, show j + 1 - j = 1 by omega, List.drop_drop, mkRowT, seqT, List.map_append, List.append_assoc]
  rfl
omit [Av.Start] in
theorem mkRowT_full (k : Int) (cs : List D) {n : Nat} (hn : n = cs.length) : mkRowT k cs n = (seqT k n).map .str := by
  rw [mkRowT, List.drop_eq_nil_of_le (by omega), List.append_nil]
omit [Av.Start] in
theorem mkRowT_cl (k : Int) {cs : List D} {n : Nat} (hc : ∀ d, d ∈ cs → Cl n d) (j : Nat) : ∀ d, d ∈ mkRowT k cs j → Cl n d := by
  intro d hd
  rcases List.mem_append.1 hd with hd | hd
  · exact strs_cl _ _ _ hd
  · exact hc d (List.mem_of_mem_drop hd)
end Go.Proofs.Ytcmpcpigchlhpaa

namespace Go.Proofs.Ytcmpcpigchlhpaa
set_option linter.unusedSectionVars false
open Go.Av
variable [Av.Start]
set_option maxRecDepth 10000
set_option maxHeartbeats 1000000
set_option linter.unusedSimpArgs false
set_option linter.unusedVariables false

omit [Av.Start] in
theorem szGo_le : ∀ (ks : List Nat) {n : Int}, (∀ k, k ∈ ks → k ≤ 1073741824) → n ≤ 1073741824 → -1 ≤ n → 0 ≤ szGo n ks → szGo n ks + ks.sum ≤ n
  | [], n, _, _, _, _ => by simp [szGo]
  | k :: ks, n, hk, h1, h0, h => by
    have hk0 := hk k List.mem_cons_self
    have hw : IntKind.i64.wrap (n - k) = n - k := wrap_id (by omega) (by omega)
    rw [szGo, hw] at h ⊢
    split at h
    · omega
    · rename_i hn
      rw [if_neg hn]
      have := szGo_le ks (fun x hx => hk x (List.mem_cons_of_mem _ hx)) (by omega) (by omega) h
      rw [List.sum_cons]
      push_cast
      omega
omit [Av.Start] in
theorem szLs_le : ∀ (net : List Leg) {n : Int} (k0 : Int), (∀ l, l ∈ net → fitsD l.d) → n ≤ 1073741824 → -1 ≤ n → 0 ≤ szLs n net → kAt net k0 net.length ≤ k0 + 6 * net.length + 3 * n
  | [], n, k0, _, _, _, h => by
    simp only [szLs] at h
    simp [kAt]
    omega
  | l :: ls, n, k0, hf, h1, h0, h => by
    rw [szLs] at h
    split at h
    · omega
    · rename_i hn
      obtain ⟨f0, f1, f2, f3, f4, f5, f6⟩ := Leg.fit (hf l List.mem_cons_self)
      have h2 := szGo_le _ (by
        intro k hk
        simp only [List.mem_cons, List.not_mem_nil, or_false] at hk
        omega) h1 h0 (show 0 ≤ szL n l by omega)
      simp only [List.sum_cons, List.sum_nil] at h2
      have h3 := szLs_le ls (n := szL n l) (markE l (k0 + 6)) (fun x hx => hf x (List.mem_cons_of_mem _ hx)) (by simp only [szL]; omega) (by omega) h
      have e : kAt (l :: ls) k0 (l :: ls).length = kAt ls (markE l (k0 + 6)) ls.length := by simp [kAt]
      rw [e, List.length_cons]
      simp only [markE, szL] at h3 h2 ⊢
      push_cast
      omega
end Go.Proofs.Ytcmpcpigchlhpaa

namespace Go.Proofs.Ytcmpcpigchlhpaa
set_option linter.unusedSectionVars false
open Go.Av
variable [Av.Start]
set_option maxRecDepth 10000
set_option maxHeartbeats 1000000
set_option linter.unusedSimpArgs false
set_option linter.unusedVariables false

omit [Av.Start] in
theorem netAt_new0 (net : List Leg) (h : Hp) : NetAt (h ++ (.row (netC net (h.length + 1)) :: netR net)) h.length net := by
  have := netAt_new net h []
  rwa [List.append_nil] at this
omit [Av.Start] in
theorem NetAt.app {h : Hp} {q : Nat} {net : List Leg} (H : NetAt h q net) (hq : q < h.length) (tl : Hp) : NetAt (h ++ tl) q net :=
  ⟨(ob_app_l hq tl).trans H.row, fun i hi => (H.legs i hi).app tl⟩
omit [Av.Start] in
theorem strs_nm (xs : List (List UInt8)) (n : Nat) : ∀ x, x ∈ [Ob.row (xs.map D.str)] → NMob n x := by
  intro x hx
  rw [List.mem_singleton.1 hx]
  intro c hc
  obtain ⟨s, _, rfl⟩ := List.mem_map.1 hc
  exact .str _
omit [Av.Start] in
theorem fwn_refl {n : Nat} {h : Hp} (d : D) : FWN n h d d := (fw_refl n h d).n
omit [Av.Start] in
theorem legs_cln (net : List Leg) (n : Nat) : Cl n (.slice (net.map Leg.d) .no) := .slice _ _ (fun _ _ e => nomatch e)
omit [Av.Start] in
theorem strs_cln (xs : List (List UInt8)) (n : Nat) : Cl n (.slice (xs.map D.str) .no) := .slice _ _ (fun _ _ e => nomatch e)
omit [Av.Start] in
/-- the heap behind the net's rows and one row more -/
theorem ob_behind (net : List Leg) (h : Hp) (x : Ob) : ob (h ++ .row (netC net (h.length + 1)) :: (netR net ++ [x])) (h.length + ((netR net).length + 1)) = x := by
  rw [ob_app]
  simp [ob]
omit [Av.Start] in
theorem legs_fit {net : List Leg} (h : deepD (.slice (net.map Leg.d) .no)) : ∀ l, l ∈ net → fitsD l.d := fun l hl c hc =>
  h c (List.mem_flatMap.2 ⟨l.d, List.mem_map.2 ⟨l, hl, rfl⟩, hc⟩)
omit [Av.Start] in
theorem sz_kAt {net : List Leg} (hl : net.length ≤ 1073741824) (hf : deepD (.slice (net.map Leg.d) .no)) (hs : 0 ≤ if IntKind.i64.wrap (1048576 - net.length) < 0 then -1 else szLs (IntKind.i64.wrap (1048576 - net.length)) net) : 0 ≤ kAt net 1 net.length ∧ kAt net 1 net.length ≤ 4000000000000000000 := by
  have hw : IntKind.i64.wrap (1048576 - net.length) = 1048576 - net.length := wrap_id (by omega) (by omega)
  have h1 := kAt_le (net := net) (k0 := 1) net.length (i := 0) (by omega)
  rw [kAt_zero, Nat.zero_add] at h1
  rw [hw] at hs
  split at hs
  · omega
  · have := szLs_le net (n := 1048576 - net.length) 1 (fun l hl => legs_fit hf l hl) (by omega) (by omega) hs
    omega
omit [Av.Start] in
theorem back_old {h g : Hp} (hl : h.length ≤ g.length) (e : ∀ r : Nat, r < h.length → g[r]? = h[r]?) : Back h g h := by
  refine ⟨Nat.le_refl _, hl, List.ext_getElem? fun r => ?_, fun r x hx => .inl hx⟩
  rw [List.getElem?_take]
  split
  · rename_i hr
    exact e r hr
  · rename_i hr
    rw [List.getElem?_eq_none (by omega)]
theorem gives_wk {P : Program} {f : FuncId} {ys xs : List D} {h : Hp} {d : D} (H : Gives P f xs h d) (hw : WkL ys xs) : Gives P f ys h d := ⟨H.1, fun w σ vs hi hr => H.2 w σ vs hi (hr.wk hw)⟩
end Go.Proofs.Ytcmpcpigchlhpaa
