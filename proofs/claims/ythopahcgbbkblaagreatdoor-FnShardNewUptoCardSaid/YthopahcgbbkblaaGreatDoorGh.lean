/- Contracts of functions of the program (Gh). -/
import Derived.Test.YthopahcgbbkblaaGreatDoorGv
import Derived.Test.YthopahcgbbkblaaGreatDoorEd

namespace Go.Proofs.YthopahcgbbkblaaGreatDoor
set_option linter.unusedSectionVars false
open Go.Av
variable [Av.Start]
set_option maxRecDepth 10000
set_option linter.unusedSimpArgs false
set_option linter.unusedVariables false

/-- n numbers in a row, from k on -/
def seqI (k : Int) : Nat → List Int
  | 0 => []
  | n + 1 => seqI k n ++ [k + n]
omit [Av.Start] in
theorem seqI_len (k : Int) : ∀ n, (seqI k n).length = n
  | 0 => rfl
  | n + 1 => by rw [seqI, List.length_append, seqI_len k n]; rfl
/-- a row of which the first j cells are marked -/
def mkRow (k : Int) (cs : List D) (j : Nat) : List D := (seqI k j).map (.int .i64) ++ cs.drop j
omit [Av.Start] in
theorem mkRow_len (k : Int) (cs : List D) {j : Nat} (hj : j ≤ cs.length) : (mkRow k cs j).length = cs.length := by
  rw [mkRow, List.length_append, List.length_map, seqI_len, List.length_drop]
  omega
omit [Av.Start] in
theorem mkRow_zero (k : Int) (cs : List D) : mkRow k cs 0 = cs := rfl
omit [Av.Start] in
theorem mkRow_step (k : Int) (cs : List D) {j : Nat} {v : Int} (hj : j < cs.length) (hv : v = k + j) : (mkRow k cs j).take j ++ D.int .i64 v :: (mkRow k cs j).drop (j + 1) = mkRow k cs (j + 1) := by
  subst hv
  have hl : ((seqI k j).map (D.int .i64)).length = j := by rw [List.length_map, seqI_len]
  rw [mkRow, List.take_append_of_le_length (by omega), List.take_of_length_le (by omega), List.drop_append, List.drop_eq_nil_of_le (by omega), List.nil_append, hl, show j + 1 - j = 1 by omega, List.drop_drop, mkRow, seqI, List.map_append, List.append_assoc]
  rfl
omit [Av.Start] in
theorem mkRow_full (k : Int) (cs : List D) {n : Nat} (hn : n = cs.length) : mkRow k cs n = (seqI k n).map (.int .i64) := by
  rw [mkRow, List.drop_eq_nil_of_le (by omega), List.append_nil]
omit [Av.Start] in
theorem mkRow_cl (k : Int) {cs : List D} {n : Nat} (hc : ∀ d, d ∈ cs → Cl n d) (j : Nat) : ∀ d, d ∈ mkRow k cs j → Cl n d := by
  intro d hd
  rcases List.mem_append.1 hd with hd | hd
  · exact ints_cl _ _ _ hd
  · exact hc d (List.mem_of_mem_drop hd)
end Go.Proofs.YthopahcgbbkblaaGreatDoor

namespace Go.Proofs.YthopahcgbbkblaaGreatDoor
set_option linter.unusedSectionVars false
open Go.Av
variable [Av.Start]
set_option maxRecDepth 10000
set_option linter.unusedSimpArgs false
set_option linter.unusedVariables false

omit [Av.Start] in
theorem getD_app_lt {α : Type} {xs ys : List α} {i : Nat} (d : α) (h : i < xs.length) : (xs ++ ys).getD i d = xs.getD i d := by
  rw [List.getD_eq_getElem?_getD, List.getElem?_append_left h, List.getD_eq_getElem?_getD]
omit [Av.Start] in
theorem getD_app_at {α : Type} {xs : List α} {x : α} {i : Nat} (d : α) (h : i = xs.length) : (xs ++ [x]).getD i d = x := by
  subst h
  rw [List.getD_eq_getElem?_getD, List.getElem?_append_right (Nat.le_refl _)]
  simp
omit [Av.Start] in
theorem seqI_get (k : Int) : ∀ {n j : Nat}, j < n → (seqI k n).getD j 0 = k + j
  | n + 1, j, h => by
    rw [seqI]
    by_cases e : j < n
    · rw [getD_app_lt _ (by rw [seqI_len]; exact e), seqI_get k e]
    · rw [getD_app_at _ (by rw [seqI_len]; omega)]
      omega
/-- n holds in a row, marked from k on -/
def seqH (k : Int) : Nat → List Hold
  | 0 => []
  | n + 1 => seqH k n ++ [⟨k + n * 3, k + n * 3 + 1, k + n * 3 + 2⟩]
omit [Av.Start] in
theorem seqH_len (k : Int) : ∀ n, (seqH k n).length = n
  | 0 => rfl
  | n + 1 => by rw [seqH, List.length_append, seqH_len k n]; rfl
omit [Av.Start] in
theorem seqH_get (k : Int) : ∀ {n j : Nat}, j < n → (seqH k n).getD j default = ⟨k + j * 3, k + j * 3 + 1, k + j * 3 + 2⟩
  | n + 1, j, h => by
    rw [seqH]
    by_cases e : j < n
    · rw [getD_app_lt _ (by rw [seqH_len]; exact e), seqH_get k e]
    · obtain rfl : j = n := by omega
      rw [getD_app_at _ (by rw [seqH_len])]
omit [Av.Start] in
theorem seqH_flat (k : Int) : ∀ n, (seqI k (n * 3)).map (.int .i64) = (seqH k n).flatMap Hold.cs
  | 0 => rfl
  | n + 1 => by
    rw [show (n + 1) * 3 = n * 3 + 1 + 1 + 1 by omega, seqI, seqI, seqI, seqH, List.map_append, List.map_append, List.map_append, seqH_flat k n, List.flatMap_append, List.append_assoc, List.append_assoc]
    congr 1
    simp [Hold.cs]
    omega
end Go.Proofs.YthopahcgbbkblaaGreatDoor

namespace Go.Proofs.YthopahcgbbkblaaGreatDoor
set_option linter.unusedSectionVars false
open Go.Av
variable [Av.Start]
set_option maxRecDepth 10000
set_option linter.unusedSimpArgs false
set_option linter.unusedVariables false

omit [Av.Start] in
theorem fill_ints (a : List Int) : a.flatMap (fun x : Int => [D.int .i64 x]) = a.map (.int .i64) := (List.map_eq_flatMap ..).symm
end Go.Proofs.YthopahcgbbkblaaGreatDoor

namespace Go.Proofs.YthopahcgbbkblaaGreatDoor
set_option linter.unusedSectionVars false
open Go.Av
variable [Av.Start]
set_option maxRecDepth 10000
set_option linter.unusedSimpArgs false
set_option linter.unusedVariables false

omit [Av.Start] in
theorem back_pre {h hb junk : Hp} (hl : hb.length = h.length) (H : ∀ (k : Nat) y, hb[k]? = some y → h[k]? = some y ∨ ObCl h.length y) : Back h (hb ++ junk) hb := by
  refine ⟨by omega, by simp, by simp, fun k x hx => ?_⟩
  rw [hl]
  exact H k x hx
/-- the marks of a leg whose slices are this long -/
def markE (l : Leg) (k : Int) : Int := k + l.limits.length + l.sold.length + l.bids.length + l.holds.length * 3
def markH (l : Leg) (q : Nat) (k : Int) (h : Hp) : Hp :=
  (((h.set q (.row ((seqI k l.limits.length).map (.int .i64)))).set (q + 1) (.row ((seqI (k + l.limits.length) l.sold.length).map (.int .i64)))).set (q + 2) (.row ((seqI (k + l.limits.length + l.sold.length) l.bids.length).map (.int .i64)))).set (q + 3) (.row ((seqI (k + l.limits.length + l.sold.length + l.bids.length) (l.holds.length * 3)).map (.int .i64)))
/-- a leg whose slices are marked from k on -/
def markL (l : Leg) (k : Int) : Leg := { l with limits := seqI k l.limits.length, sold := seqI (k + l.limits.length) l.sold.length, bids := seqI (k + l.limits.length + l.sold.length) l.bids.length, holds := seqH (k + l.limits.length + l.sold.length + l.bids.length) l.holds.length }
omit [Av.Start] in
theorem markL_dv (l : Leg) (k : Int) (q : Nat) : (markL l k).dv q = l.dv q := by
  simp only [markL, Leg.dv, Leg.dvc, seqI_len, seqH_len]
omit [Av.Start] in
theorem LegAt.mark {h : Hp} {q : Nat} {l : Leg} (H : LegAt h q l) (k : Int) : LegAt (markH l q k h) q (markL l k) := by
  have hl := H.lt
  have hh := seqH_flat (k + l.limits.length + l.sold.length + l.bids.length) l.holds.length
  refine ⟨?_, ?_, ?_, ?_, by simp [markH]; exact hl⟩
  · rw [markH, ob_set_ne (by omega), ob_set_ne (by omega), ob_set_ne (by omega), ob_set_eq (by omega)]; rfl
  · rw [markH, ob_set_ne (by omega), ob_set_ne (by omega), ob_set_eq (by simp; omega)]; rfl
  · rw [markH, ob_set_ne (by omega), ob_set_eq (by simp; omega)]; rfl
  · rw [markH, ob_set_eq (by simp; omega), hh]; rfl
omit [Av.Start] in
/-- the marks leave a leg in other rows alone -/
theorem LegAt.other {h : Hp} {q r : Nat} {l l' : Leg} (H : LegAt h r l') (k : Int) (hq : q + 3 < r ∨ r + 3 < q) : LegAt (markH l q k h) r l' := by
  refine ⟨?_, ?_, ?_, ?_, by simp [markH]; exact H.lt⟩
  · rw [markH, ob_set_ne (by omega), ob_set_ne (by omega), ob_set_ne (by omega), ob_set_ne (by omega)]; exact H.limits
  · rw [markH, ob_set_ne (by omega), ob_set_ne (by omega), ob_set_ne (by omega), ob_set_ne (by omega)]; exact H.sold
  · rw [markH, ob_set_ne (by omega), ob_set_ne (by omega), ob_set_ne (by omega), ob_set_ne (by omega)]; exact H.bids
  · rw [markH, ob_set_ne (by omega), ob_set_ne (by omega), ob_set_ne (by omega), ob_set_ne (by omega)]; exact H.holds
end Go.Proofs.YthopahcgbbkblaaGreatDoor

namespace Go.Proofs.YthopahcgbbkblaaGreatDoor
set_option linter.unusedSectionVars false
open Go.Av
variable [Av.Start]
set_option maxRecDepth 10000
set_option linter.unusedSimpArgs false
set_option linter.unusedVariables false

omit [Av.Start] in
theorem FzL2 {h : Hp} {q : Nat} {l : Leg} {n : Int} (H : LegAt h q l) : FzL h [l.dv q, .int .i64 n] [l.d, .int .i64 n] := ⟨H.fw, l.cl0 0, fw_refl _ _ _, .int _ _, trivial⟩
omit [Av.Start] in
theorem Leg.dv_nm (l : Leg) {n r : Nat} (h : n ≤ r) : NM n (l.dv r) := .agg _ (l.dvc_nm h)
omit [Av.Start] in
theorem FzLd {h : Hp} {q : Nat} {l l' : Leg} (H : LegAt h q l) : FzL h [l.dv q, l'.d] [l.d, l'.d] := ⟨H.fw, l.cl0 0, fw_refl _ _ _, l'.cl0 0, trivial⟩
omit [Av.Start] in
theorem legAt_of {h g : Hp} {q : Nat} {l : Leg} (k : Nat) (e : q = h.length + k) (e0 : ob g k = .row (l.limits.map (.int .i64))) (e1 : ob g (k + 1) = .row (l.sold.map (.int .i64))) (e2 : ob g (k + 2) = .row (l.bids.map (.int .i64))) (e3 : ob g (k + 3) = .row (l.holds.flatMap Hold.cs)) (hl : k + 3 < g.length) : LegAt (h ++ g) q l := by
  subst e
  exact ⟨by rw [ob_app]; exact e0, by rw [Nat.add_assoc, ob_app]; exact e1, by rw [Nat.add_assoc, ob_app]; exact e2, by rw [Nat.add_assoc, ob_app]; exact e3, by rw [List.length_append]; omega⟩

omit [Av.Start] in
theorem Leg.nm0 {n : Nat} : NM n (Leg.d default) := by
  refine .agg _ fun c hc => ?_
  simp only [Leg.cs, List.mem_cons, List.not_mem_nil, or_false] at hc
  rcases hc with rfl | rfl | rfl | rfl | rfl | rfl | rfl | rfl | rfl | rfl
  · exact .str _
  · exact .str _
  · exact .str _
  · exact .int _ _
  · exact .int _ _
  · exact .int _ _
  all_goals exact .snil _ (fun _ _ e => nomatch e)
omit [Av.Start] in
theorem markH_app (l : Leg) (k : Nat) (m : Int) (h g : Hp) : markH l (h.length + k) m (h ++ g) = h ++ markH l k m g := by
  simp only [markH, Nat.add_assoc, set_app]
omit [Av.Start] in
theorem FzLm {h : Hp} {q : Nat} {l : Leg} {k n : Int} (H : LegAt h q (markL l k)) : FzL h [l.dv q, .int .i64 n] [(markL l k).d, .int .i64 n] := by
  rw [← markL_dv l k q]
  exact FzL2 H

end Go.Proofs.YthopahcgbbkblaaGreatDoor
