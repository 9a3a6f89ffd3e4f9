/- Contracts of functions of the program (Gq). -/
import Derived.Test.YthopahcgbbkblaaGreatDoorGh
import Derived.Test.YthopahcgbbkblaaGreatDoorGo
import Derived.Test.YthopahcgbbkblaaGreatDoorEd

namespace Go.Proofs.YthopahcgbbkblaaGreatDoor
set_option linter.unusedSectionVars false
open Go.Av
variable [Av.Start]
set_option maxRecDepth 10000
set_option maxHeartbeats 1000000
set_option linter.unusedSimpArgs false
set_option linter.unusedVariables false

/-! A net as rows: the row of legs, and behind it the rows of each leg. -/
def netC : List Leg → Nat → List D
  | [], _ => []
  | l :: ls, q => l.dvc q ++ netC ls (q + 4)
def netR (ls : List Leg) : Hp := ls.flatMap Leg.rows
def zC : List D := [.str [], .str [], .str [], .int .i64 0, .int .i64 0, .int .i64 0, .slice [] .full, .slice [] .full, .slice [] .full, .slice [] .full]
omit [Av.Start] in
theorem zeros_succ (z : List D) (n : Nat) : zeros z (n + 1) = z ++ zeros z n := by rw [zeros, zeros, List.replicate_succ, List.flatten_cons]
omit [Av.Start] in
theorem dvc_len (l : Leg) (q : Nat) : (l.dvc q).length = 10 := rfl
omit [Av.Start] in
theorem netC_len : ∀ (ls : List Leg) (q : Nat), (netC ls q).length = ls.length * 10
  | [], _ => rfl
  | l :: ls, q => by rw [netC, List.length_append, netC_len ls, dvc_len, List.length_cons]; omega
omit [Av.Start] in
theorem netR_len : ∀ (ls : List Leg), (netR ls).length = ls.length * 4
  | [] => rfl
  | l :: ls => by
    show (l.rows ++ netR ls).length = _
    rw [List.length_append, netR_len ls, List.length_cons, Leg.rows_len]; omega
omit [Av.Start] in
theorem netC_app : ∀ (ls ms : List Leg) (q : Nat), netC (ls ++ ms) q = netC ls q ++ netC ms (q + 4 * ls.length)
  | [], ms, q => by simp [netC]
  | l :: ls, ms, q => by
    rw [List.cons_append, netC, netC, netC_app ls ms, List.append_assoc, List.length_cons, show q + 4 + 4 * ls.length = q + 4 * (ls.length + 1) by omega]
omit [Av.Start] in
theorem netR_app (ls ms : List Leg) : netR (ls ++ ms) = netR ls ++ netR ms := List.flatMap_append
omit [Av.Start] in
theorem netC_cl : ∀ (ls : List Leg) {q n : Nat}, q + 4 * ls.length ≤ n → ∀ d, d ∈ netC ls q → Cl n d
  | [], q, n, _, d, hd => nomatch hd
  | l :: ls, q, n, h, d, hd => by
    rw [List.length_cons] at h
    rcases List.mem_append.1 hd with hd | hd
    · exact l.dvc_cl (by omega) d hd
    · exact netC_cl ls (by omega) d hd
omit [Av.Start] in
theorem netR_cl (ls : List Leg) (n : Nat) : ∀ x, x ∈ netR ls → ObCl n x := fun x hx => by
  obtain ⟨l, _, hx⟩ := List.mem_flatMap.1 hx
  exact l.rows_cl n x hx
/-- the row of legs behind k rounds of toLegS -/
def fillNet (ls : List Leg) (q k : Nat) : List D := netC (ls.take k) q ++ zeros zC (ls.length - k)
omit [Av.Start] in
theorem fillNet_len (ls : List Leg) (q : Nat) {k : Nat} (hk : k ≤ ls.length) : (fillNet ls q k).length = ls.length * 10 := by
  rw [fillNet, List.length_append, netC_len, List.length_take, zeros_length]
  show min k ls.length * 10 + (ls.length - k) * 10 = _
  omega
omit [Av.Start] in
theorem take_succ_get {ls : List Leg} {k : Nat} (hk : k < ls.length) : ls.take (k + 1) = ls.take k ++ [ls.getD k default] := by
  rw [List.take_add_one, List.getD_eq_getElem?_getD, List.getElem?_eq_getElem hk]
  rfl
omit [Av.Start] in
theorem fillNet_step (ls : List Leg) (q : Nat) {k : Nat} (hk : k < ls.length) : (fillNet ls q k).take (k * 10) ++ ((ls.getD k default).dvc (q + 4 * k) ++ (fillNet ls q k).drop (k * 10 + 10)) = fillNet ls q (k + 1) := by
  have h1 : (netC (ls.take k) q).length = k * 10 := by rw [netC_len, List.length_take]; omega
  rw [fillNet, List.take_append_of_le_length (by omega), List.take_of_length_le (by omega), List.drop_append, List.drop_eq_nil_of_le (by omega), List.nil_append, h1, show k * 10 + 10 - k * 10 = 10 by omega,
    show ls.length - k = (ls.length - (k + 1)) + 1 by omega, zeros_succ, show (10 : Nat) = zC.length from rfl, List.drop_left, fillNet, take_succ_get hk, netC_app, List.length_take, Nat.min_eq_left (by omega), netC, netC, List.append_nil, List.append_assoc]
omit [Av.Start] in
theorem fillNet_full (ls : List Leg) (q : Nat) : fillNet ls q ls.length = netC ls q := by
  rw [fillNet, List.take_length, Nat.sub_self]
  simp [zeros]
omit [Av.Start] in
theorem zC_cl (n : Nat) : ∀ d, d ∈ zC → Cl n d := zLeg_cl n
omit [Av.Start] in
theorem fillNet_cl (ls : List Leg) {q n k : Nat} (hk : k ≤ ls.length) (h : q + 4 * k ≤ n) : ∀ d, d ∈ fillNet ls q k → Cl n d := fun d hd => by
  rcases List.mem_append.1 hd with hd | hd
  · exact netC_cl _ (by rw [List.length_take]; omega) d hd
  · exact zC_cl _ d (mem_zeros hd)
omit [Av.Start] in
theorem netR_take (ls : List Leg) {k : Nat} (hk : k < ls.length) : netR (ls.take k) ++ (ls.getD k default).rows = netR (ls.take (k + 1)) := by
  rw [take_succ_get hk, netR_app]
  simp [netR]
end Go.Proofs.YthopahcgbbkblaaGreatDoor

namespace Go.Proofs.YthopahcgbbkblaaGreatDoor
set_option linter.unusedSectionVars false
open Go.Av
variable [Av.Start]
set_option maxRecDepth 10000
set_option maxHeartbeats 1000000
set_option linter.unusedSimpArgs false
set_option linter.unusedVariables false

/-- the net's rows in a heap: the row of legs at q, the legs' rows from q + 1 on -/
structure NetAt (h : Hp) (q : Nat) (net : List Leg) : Prop where
  row : ob h q = .row (netC net (q + 1))
  legs : ∀ i, i < net.length → LegAt h (q + 1 + 4 * i) (net.getD i default)
omit [Av.Start] in
theorem frz_of {n : Nat} {h : Hp} {r : Nat} {ag : Bool} {sz off len cp : Nat} {es : List D} (H : FW n h (.vec r ag sz off len cp) (.slice es .no)) : Frz n h (.vec r ag sz off len cp) (.slice es .no) := by
  obtain ⟨⟨k1, k2, k3, k4, k5, k6⟩, rfl⟩ := (fw_vec _ _ _ _ _ _ _ _ _).1 H
  exact .vec r ag sz off len cp k1 k2 k3 k4 k5 k6
def FrzL (h : Hp) (cs cs' : List D) : Prop := cs'.length = cs.length ∧ ∀ k (h1 : k < cs.length) (h2 : k < cs'.length), Frz 0 h (cs[k]) (cs'[k])
omit [Av.Start] in
theorem FrzL.app {h : Hp} {a a' b b' : List D} (H : FrzL h a a') (K : FrzL h b b') : FrzL h (a ++ b) (a' ++ b') := by
  have e := H.1
  refine ⟨by rw [List.length_append, List.length_append, H.1, K.1], fun k h1 h2 => ?_⟩
  by_cases hk : k < a.length
  · rw [List.getElem_append_left hk, List.getElem_append_left (by omega)]
    exact H.2 k hk (by omega)
  · rw [List.getElem_append_right (by omega), List.getElem_append_right (by omega)]
    have hk2 : k - a.length < b.length := by rw [List.length_append] at h1; omega
    have := K.2 (k - a.length) hk2 (by rw [K.1]; exact hk2)
    simpa [e] using this
omit [Av.Start] in
theorem LegAt.frz {h : Hp} {q : Nat} {l : Leg} (H : LegAt h q l) : FrzL h (l.dvc q) l.cs := by
  refine ⟨rfl, fun k h1 h2 => ?_⟩
  have hF := (fw_agg _ _ _ _).1 H.fw
  obtain ⟨_, _, _, _, _, _, f1, f2, f3, f4, _⟩ := hF
  match k, h2 with
  | 0, _ => exact .refl _
  | 1, _ => exact .refl _
  | 2, _ => exact .refl _
  | 3, _ => exact .refl _
  | 4, _ => exact .refl _
  | 5, _ => exact .refl _
  | 6, _ => exact frz_of f1
  | 7, _ => exact frz_of f2
  | 8, _ => exact frz_of f3
  | 9, _ => exact frz_of f4
omit [Av.Start] in
theorem net_frz {h : Hp} : ∀ (net : List Leg) (q : Nat), (∀ i, i < net.length → LegAt h (q + 4 * i) (net.getD i default)) → FrzL h (netC net q) (net.flatMap Leg.cs)
  | [], q, _ => ⟨rfl, fun k h1 => nomatch h1⟩
  | l :: ls, q, H => by
    rw [netC, List.flatMap_cons]
    refine FrzL.app (by simpa using (H 0 (by simp)).frz) (net_frz ls (q + 4) fun i hi => ?_)
    have := H (i + 1) (by simpa using hi)
    rw [show q + 4 + 4 * i = q + 4 * (i + 1) by omega]
    simpa using this
omit [Av.Start] in
theorem NetAt.fw {h : Hp} {q : Nat} {net : List Leg} (H : NetAt h q net) : FWN 0 h (.vec q true 10 0 net.length net.length) (.slice (net.map Leg.d) .no) := by
  have hp : rowPart h q 10 0 net.length = netC net (q + 1) := by
    rw [rowPart, H.row]
    simp only [rowOf]
    rw [Nat.zero_mul, List.drop_zero, List.take_of_length_le (by rw [netC_len]; exact Nat.le_refl _)]
  obtain ⟨k1, k2⟩ := net_frz net (q + 1) H.legs
  refine ⟨.slice (chunk true 10 net.length (net.flatMap Leg.cs)) .no, .vec q true 10 0 net.length net.length (net.flatMap Leg.cs) (Nat.zero_le _) (by rw [H.row]; trivial) (by rw [H.row]; simp only [rowOf, netC_len]; omega) (by rw [hp]; exact k1) ?_ (legs_cl net 0) (by omega) (fun e => nomatch e), by rw [legs_chunk net _ rfl]; exact .refl _⟩
  simp only [hp]
  exact k2
omit [Av.Start] in
theorem netR_get : ∀ (net : List Leg) (i j : Nat), i < net.length → j < 4 → (netR net)[4 * i + j]? = (net.getD i default).rows[j]?
  | [], i, j, h, _ => absurd h (by simp)
  | l :: ls, 0, j, h, hj => by
    show (l.rows ++ netR ls)[4 * 0 + j]? = _
    rw [List.getElem?_append_left (by rw [Leg.rows_len]; omega)]
    simp
  | l :: ls, i + 1, j, h, hj => by
    show (l.rows ++ netR ls)[4 * (i + 1) + j]? = _
    rw [List.getElem?_append_right (by rw [Leg.rows_len]; omega), Leg.rows_len, show 4 * (i + 1) + j - 4 = 4 * i + j by omega, netR_get ls i j (by simpa using h) hj]
    simp
omit [Av.Start] in
/-- behind toLegS -/
theorem netAt_new (net : List Leg) (h tl : Hp) : NetAt (h ++ (.row (netC net (h.length + 1)) :: netR net ++ tl)) h.length net := by
  refine ⟨by rw [show h.length = h.length + 0 from rfl, ob_app]; rfl, fun i hi => ?_⟩
  have hl := netR_len net
  have key : ∀ j, j < 4 → (h ++ (.row (netC net (h.length + 1)) :: netR net ++ tl))[h.length + 1 + 4 * i + j]? = (net.getD i default).rows[j]? := fun j hj => by
    rw [List.getElem?_append_right (by omega), List.cons_append, show h.length + 1 + 4 * i + j - h.length = (4 * i + j) + 1 by omega, List.getElem?_cons_succ, List.getElem?_append_left (by omega), netR_get net i j hi hj]
  refine ⟨ob_of (key 0 (by omega)), ob_of (key 1 (by omega)), ob_of (key 2 (by omega)), ob_of (key 3 (by omega)), ?_⟩
  simp only [List.length_append, List.length_cons]
  omega
end Go.Proofs.YthopahcgbbkblaaGreatDoor
