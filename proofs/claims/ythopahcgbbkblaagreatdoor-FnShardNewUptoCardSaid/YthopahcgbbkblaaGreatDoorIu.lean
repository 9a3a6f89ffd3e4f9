/- The program's copies of a net: seen. -/
import Derived.Test.YthopahcgbbkblaaGreatDoorHm

namespace Go.Proofs.YthopahcgbbkblaaGreatDoor
set_option linter.unusedSectionVars false
open Go.Av
variable [Av.Start]
set_option maxRecDepth 10000
set_option maxHeartbeats 4000000
set_option linter.unusedSimpArgs false
set_option linter.unusedVariables false

/-- the net's rows in a heap: the row of legs at q, the legs' rows from q + 1 on -/
structure NetBt (h : Hp) (q : Nat) (net : List Leg) : Prop where
  row : ob h q = .row (netD net (q + 2))
  legs : ∀ i, i < net.length → LegAt h (q + 2 + 5 * i) (net.getD i default)
omit [Av.Start] in
theorem netD_frz {h : Hp} : ∀ (net : List Leg) (q : Nat), (∀ i, i < net.length → LegAt h (q + 5 * i) (net.getD i default)) → FrzL h (netD net q) (net.flatMap Leg.cs)
  | [], q, _ => ⟨rfl, fun k h1 => nomatch h1⟩
  | l :: ls, q, H => by
    rw [netD, List.flatMap_cons]
    refine FrzL.app (by simpa using (H 0 (by simp)).frz) (netD_frz ls (q + 5) fun i hi => ?_)
    have := H (i + 1) (by simpa using hi)
    rw [show q + 5 + 5 * i = q + 5 * (i + 1) by omega]
    simpa using this
omit [Av.Start] in
theorem NetBt.fw {h : Hp} {q : Nat} {net : List Leg} (H : NetBt h q net) : FWN 0 h (.vec q true 10 0 net.length net.length) (.slice (net.map Leg.d) .no) := by
  have hp : rowPart h q 10 0 net.length = netD net (q + 2) := by
    rw [rowPart, H.row]
    simp only [rowOf]
    rw [Nat.zero_mul, List.drop_zero, List.take_of_length_le (by rw [netD_len]; exact Nat.le_refl _)]
  obtain ⟨k1, k2⟩ := netD_frz net (q + 2) H.legs
  refine ⟨.slice (chunk true 10 net.length (net.flatMap Leg.cs)) .no, .vec q true 10 0 net.length net.length (net.flatMap Leg.cs) (Nat.zero_le _) (by rw [H.row]; trivial) (by rw [H.row]; simp only [rowOf, netD_len]; omega) (by rw [hp]; exact k1) ?_ (legs_cl net 0) (by omega) (fun e => nomatch e), by rw [legs_chunk net _ rfl]; exact .refl _⟩
  simp only [hp]
  exact k2
omit [Av.Start] in
theorem netD_getD : ∀ (net : List Leg) (q j c : Nat), j < net.length → c < 10 → (netD net q).getD (j * 10 + c) .junk = ((net.getD j default).dvc (q + 5 * j)).getD c .junk
  | [], _, j, _, h, _ => absurd h (by simp)
  | l :: ls, q, 0, c, h, hc => by
    rw [netD, List.getD_eq_getElem?_getD, List.getElem?_append_left (by rw [dvc_len]; omega)]
    simp [List.getD_eq_getElem?_getD]
  | l :: ls, q, j + 1, c, h, hc => by
    have := netD_getD ls (q + 5) j c (by simpa using h) hc
    rw [netD, List.getD_eq_getElem?_getD, List.getElem?_append_right (by rw [dvc_len]; omega), dvc_len, show (j + 1) * 10 + c - 10 = j * 10 + c by omega, ← List.getD_eq_getElem?_getD, this, show q + 5 + 5 * j = q + 5 * (j + 1) by omega]
    simp
omit [Av.Start] in
theorem netG_get (x : Leg → Ob) : ∀ (net : List Leg) (i j : Nat), i < net.length → j < 4 → (netG x net)[5 * i + 1 + j]? = (net.getD i default).rows[j]?
  | [], i, j, h, _ => absurd h (by simp)
  | l :: ls, 0, j, h, hj => by
    show (x l :: l.rows ++ netG x ls)[5 * 0 + 1 + j]? = _
    rw [List.getElem?_append_left (by rw [List.length_cons, Leg.rows_len]; omega), show 5 * 0 + 1 + j = j + 1 by omega, List.getElem?_cons_succ]
    simp
  | l :: ls, i + 1, j, h, hj => by
    show (x l :: l.rows ++ netG x ls)[5 * (i + 1) + 1 + j]? = _
    rw [List.getElem?_append_right (by rw [List.length_cons, Leg.rows_len]; omega), List.length_cons, Leg.rows_len, show 5 * (i + 1) + 1 + j - (4 + 1) = 5 * i + 1 + j by omega, netG_get x ls i j (by simpa using h) hj]
    simp
omit [Av.Start] in
/-- behind copyNet -/
theorem netBt_new (x : Leg → Ob) (net : List Leg) (h tl : Hp) : NetBt (h ++ (.row (netD net (h.length + 2)) :: netG x net ++ tl)) h.length net := by
  refine ⟨by rw [show h.length = h.length + 0 from rfl, ob_app]; rfl, fun i hi => ?_⟩
  have hl := netG_len x net
  have key : ∀ j, j < 4 → (h ++ (.row (netD net (h.length + 2)) :: netG x net ++ tl))[h.length + 2 + 5 * i + j]? = (net.getD i default).rows[j]? := fun j hj => by
    rw [List.getElem?_append_right (by omega), List.cons_append, show h.length + 2 + 5 * i + j - h.length = (5 * i + 1 + j) + 1 by omega, List.getElem?_cons_succ, List.getElem?_append_left (by omega), netG_get x net i j hi hj]
  refine ⟨ob_of (key 0 (by omega)), ob_of (key 1 (by omega)), ob_of (key 2 (by omega)), ob_of (key 3 (by omega)), ?_⟩
  simp only [List.length_append, List.length_cons]
  omega
omit [Av.Start] in
theorem NetBt.app {h : Hp} {q : Nat} {net : List Leg} (H : NetBt h q net) (hq : q < h.length) (tl : Hp) : NetBt (h ++ tl) q net :=
  ⟨(ob_app_l hq tl).trans H.row, fun i hi => (H.legs i hi).app tl⟩
end Go.Proofs.YthopahcgbbkblaaGreatDoor
