/- Lists of numbers and a leg, read by the reference. -/
import Derived.Test.YtcmpcpigchlhpaaDoorGx
import Derived.Test.YtcmpcpigchlhpaaDoorGg
import Derived.Test.YtcmpcpigchlhpaaDoorGo
import Derived.Test.YtcmpcpigchlhpaaDoorGh

namespace Go.Proofs.YtcmpcpigchlhpaaDoor
set_option linter.unusedSectionVars false
open Go.Av
variable [Av.Start] [TabPow]
set_option maxRecDepth 10000
set_option maxHeartbeats 1000000
set_option linter.unusedSimpArgs false
set_option linter.unusedVariables false

/-- the numbers that the reference reads -/
def numsS (s : List UInt8) : List Int := ((splitC 44 s).take 5).map num12
/-- the leg that the reference makes of eight words -/
def legRS (ws : List (List UInt8)) : Leg := ⟨ws.getD 0 [], ws.getD 1 [], ws.getD 2 [], num12 (ws.getD 3 []), num12 (ws.getD 4 []), (numsS (ws.getD 5 [])).getD 0 0, numsS (ws.getD 5 []), numsS (ws.getD 6 []), numsS (ws.getD 7 []), []⟩
def legOut (l : Leg) (s : List UInt8) : Leg × Bool := if (if legB l = true then legT l else []) = s then (l, true) else (default, false)
def legVS (s : List UInt8) : Leg × Bool := if (splitC 32 s).length = 8 then legOut (legRS (splitC 32 s)) s else (default, false)
theorem numsS_ne (s : List UInt8) : 0 < (numsS s).length := by
  rw [numsS, List.length_map, List.length_take]
  have := splitC_ne 44 s
  cases h : splitC 44 s with
  | nil => exact absurd h this
  | cons => simp only [List.length_cons]; omega
omit [Av.Start] [TabPow] in
theorem wk_last (xs : List D) (es : List D) (t : Tok) : Wk (.agg (xs ++ [.slice es t])) (.agg (xs ++ [.slice es .no])) := by
  refine .agg _ _ (by simp) fun k h1 h2 => ?_
  by_cases hk : k < xs.length
  · rw [List.getElem_append_left hk, List.getElem_append_left hk]
    exact .refl _
  · obtain rfl : k = xs.length := by simp at h1; omega
    simp only [List.getElem_append_right (Nat.le_refl _), Nat.sub_self, List.getElem_cons_zero]
    exact .tok _ _
/-- a leg of which nothing is held -/
def Leg.cs9 (l : Leg) : List D := [.str l.name, .str l.src, .str l.dst, .int .i64 l.dep, .int .i64 l.arr, .int .i64 l.cap, .slice (l.limits.map (.int .i64)) .no, .slice (l.sold.map (.int .i64)) .no, .slice (l.bids.map (.int .i64)) .no]
omit [Av.Start] [TabPow] in
theorem Leg.wk0 {l : Leg} (h : l.holds = []) : Wk (.agg (l.cs9 ++ [.slice [] .full])) l.d := by
  have := wk_last l.cs9 [] .full
  rw [Leg.d, Leg.cs, h]
  exact this
end Go.Proofs.YtcmpcpigchlhpaaDoor

/- Lists of numbers, read by the program. -/
namespace Go.Proofs.YtcmpcpigchlhpaaDoor
set_option linter.unusedSectionVars false
open Go.Av
variable [Av.Start] [TabPow] [TabErr] [TabMax]
set_option maxRecDepth 10000
set_option maxHeartbeats 1000000
set_option linter.unusedSimpArgs false
set_option linter.unusedVariables false

/-- the numbers that the program reads, and whether they are all numbers -/
def numsI (s : List UInt8) : List Int := (splitC 44 s).map fun p => (numV p).1
def numsOk (s : List UInt8) : Bool := (splitC 44 s).all fun p => (numV p).2
end Go.Proofs.YtcmpcpigchlhpaaDoor

/- A leg's text, read by the program: plain law, and by value. -/
namespace Go.Proofs.YtcmpcpigchlhpaaDoor
set_option linter.unusedSectionVars false
open Go.Av
variable [Av.Start] [TabPow] [TabErr] [TabMax]
set_option maxRecDepth 10000
set_option maxHeartbeats 1000000
set_option linter.unusedSimpArgs false
set_option linter.unusedVariables false

/-- the leg that the program makes of eight words -/
def legRI (ws : List (List UInt8)) : Leg := ⟨ws.getD 0 [], ws.getD 1 [], ws.getD 2 [], (numV (ws.getD 3 [])).1, (numV (ws.getD 4 [])).1, (numsI (ws.getD 5 [])).getD 0 0, numsI (ws.getD 5 []), numsI (ws.getD 6 []), numsI (ws.getD 7 []), []⟩
def legNums (ws : List (List UInt8)) : Bool := (numV (ws.getD 3 [])).2 && (numV (ws.getD 4 [])).2 && numsOk (ws.getD 5 []) && numsOk (ws.getD 6 []) && numsOk (ws.getD 7 [])
def legVI (s : List UInt8) : Leg × Bool := if (splitC 32 s).length = 8 ∧ legNums (splitC 32 s) = true then legOut (legRI (splitC 32 s)) s else (default, false)
omit [Av.Start] [TabPow] [TabErr] [TabMax] in
theorem numV_num12 {p : List UInt8} (h : (numV p).2 = true) (h0 : 0 ≤ (numV p).1) (h1 : (numV p).1 < 1000000000000) : num12 p = (numV p).1 := by
  obtain ⟨e, _, _⟩ := numV_true h
  rw [e, num12_itoa h0 h1, ← e]
omit [Av.Start] [TabPow] [TabErr] [TabMax] in
theorem num12_numV {p : List UInt8} (h : 0 ≤ num12 p) : numV p = (num12 p, true) := by
  obtain ⟨e, h1⟩ := num12_pos h
  have := numV_itoa (n := num12 p) (by omega) (by omega)
  rwa [← e] at this
omit [Av.Start] [TabPow] [TabErr] [TabMax] in
theorem nums_IS {s : List UInt8} (hok : numsOk s = true) (hl : (numsI s).length ≤ 4) (hb : ∀ x, x ∈ numsI s → 0 ≤ x ∧ x < 1000000000000) : numsS s = numsI s := by
  rw [numsI, List.length_map] at hl
  rw [numsS, List.take_of_length_le (by omega), numsI]
  refine List.map_congr_left fun p hp => ?_
  have h2 := hb _ (List.mem_map.2 ⟨p, hp, rfl⟩)
  exact numV_num12 (List.all_eq_true.1 hok p hp) h2.1 h2.2
omit [Av.Start] [TabPow] [TabErr] [TabMax] in
theorem nums_SI {s : List UInt8} (hl : (numsS s).length ≤ 4) (hb : ∀ x, x ∈ numsS s → 0 ≤ x) : numsOk s = true ∧ numsI s = numsS s := by
  have hl2 : (splitC 44 s).length ≤ 4 := by
    rw [numsS, List.length_map, List.length_take] at hl
    omega
  have ht : (splitC 44 s).take 5 = splitC 44 s := List.take_of_length_le (by omega)
  rw [numsS, ht] at hb ⊢
  have hp : ∀ p, p ∈ splitC 44 s → numV p = (num12 p, true) := fun p hp => num12_numV (hb _ (List.mem_map.2 ⟨p, hp, rfl⟩))
  exact ⟨List.all_eq_true.2 fun p h => by rw [hp p h], List.map_congr_left fun p h => by rw [hp p h]⟩
omit [TabPow] [TabErr] [TabMax] in
theorem legB_nums {l : Leg} (hb : legB l = true) : (0 ≤ l.dep ∧ l.dep < 1000000000000) ∧ (0 ≤ l.arr ∧ l.arr < 1000000000000) ∧ (l.limits.length ≤ 4 ∧ ∀ x, x ∈ l.limits → 0 ≤ x ∧ x < 1000000000000) ∧ (l.sold.length ≤ 4 ∧ ∀ x, x ∈ l.sold → 0 ≤ x ∧ x < 1000000000000) ∧ l.bids.length ≤ 4 ∧ ∀ x, x ∈ l.bids → 0 ≤ x ∧ x < 1000000000000 := by
  have hp := legP_of hb
  have h1 := hp.dep
  have h2 := hp.arr
  have h3 := hp.cap
  refine ⟨by omega, by omega, ⟨by have := hp.limits; omega, fun x hx => ?_⟩, ⟨by have := hp.sold; omega, fun x hx => ?_⟩, hp.bids.2, fun x hx => ?_⟩
  · obtain ⟨i, hi, rfl⟩ := List.getElem_of_mem hx
    have := hp.lim i (by have := hp.limits; omega)
    rw [List.getD_eq_getElem?_getD, List.getElem?_eq_getElem hi] at this
    simp only [Option.getD_some] at this
    omega
  · have := hp.sol x hx
    omega
  · obtain ⟨i, hi, rfl⟩ := List.getElem_of_mem hx
    have := hp.bid i hi
    rw [List.getD_eq_getElem?_getD, List.getElem?_eq_getElem hi] at this
    simp only [Option.getD_some] at this
    omega
omit [TabPow] [TabErr] [TabMax] in
theorem legRd_eq (s : List UInt8) : legVI s = legVS s := by
  rw [legVI, legVS]
  by_cases h8 : (splitC 32 s).length = 8
  · rw [if_pos h8]
    have hs : s ≠ [] := fun e => by rw [e] at h8; cases h8
    generalize splitC 32 s = ws at h8
    have hIS : legNums ws = true → legB (legRI ws) = true → legRS ws = legRI ws := fun hn hb => by
      obtain ⟨h1, h2, h3, h4, h5⟩ := legB_nums hb
      simp only [legNums, Bool.and_eq_true] at hn
      obtain ⟨⟨⟨⟨n1, n2⟩, n3⟩, n4⟩, n5⟩ := hn
      simp only [legRI] at h1 h2 h3 h4 h5
      rw [legRS, legRI, nums_IS n3 h3.1 h3.2, nums_IS n4 h4.1 h4.2, nums_IS n5 h5.1 h5.2, numV_num12 n1 h1.1 h1.2, numV_num12 n2 h2.1 h2.2]
    have hSI : legB (legRS ws) = true → legNums ws = true ∧ legRI ws = legRS ws := fun hb => by
      obtain ⟨h1, h2, h3, h4, h5⟩ := legB_nums hb
      simp only [legRS] at h1 h2 h3 h4 h5
      obtain ⟨a3, b3⟩ := nums_SI h3.1 (fun x hx => (h3.2 x hx).1)
      obtain ⟨a4, b4⟩ := nums_SI h4.1 (fun x hx => (h4.2 x hx).1)
      obtain ⟨a5, b5⟩ := nums_SI h5.1 (fun x hx => (h5.2 x hx).1)
      have a1 := num12_numV h1.1
      have a2 := num12_numV h2.1
      exact ⟨by rw [legNums, a1, a2, a3, a4, a5]; rfl, by rw [legRS, legRI, b3, b4, b5, a1, a2]⟩
    have hout : ∀ l, legB l = false → legOut l s = (default, false) := fun l hb => by
      rw [legOut, hb, if_neg]
      exact fun e => hs e.symm
    cases hbs : legB (legRS ws) with
    | true =>
      obtain ⟨a, b⟩ := hSI hbs
      rw [if_pos ⟨h8, a⟩, b]
    | false =>
      rw [hout _ hbs]
      by_cases hn : legNums ws = true
      · rw [if_pos ⟨h8, hn⟩]
        cases hbi : legB (legRI ws) with
        | true =>
          rw [hIS hn hbi, hbi] at hbs
          cases hbs
        | false => exact hout _ hbi
      · rw [if_neg fun h => hn h.2]
  · rw [if_neg h8, if_neg fun h => h8 h.1]
end Go.Proofs.YtcmpcpigchlhpaaDoor

/- A leg's text, read by the program: the walk by value. -/
namespace Go.Proofs.YtcmpcpigchlhpaaDoor
set_option linter.unusedSectionVars false
open Go.Av
variable [Av.Start] [TabPow] [TabErr] [TabMax]
set_option maxRecDepth 10000
set_option maxHeartbeats 1000000
set_option linter.unusedSimpArgs false
set_option linter.unusedVariables false

omit [TabPow] [TabErr] [TabMax] in
theorem gives_wkr {P : Program} {f : FuncId} {args : List D} {h : Hp} {d d' : D} (H : Gives P f args h d) (hw : Wk d d') : Gives P f args h d' := by
  refine ⟨H.1, fun w σ vs hi hr => (H.2 w σ vs hi hr).mono ?_⟩
  rintro e w' ⟨v, he, x, h', σ', ⟨rfl, rfl⟩, hi', hd, hst⟩
  exact ⟨v, he, _, _, σ', ⟨rfl, rfl⟩, hi', hd.wk hw, hst⟩
def numsIf (s : List UInt8) : List Int := if numsOk s = true then numsI s else []
theorem getD_len {s : List UInt8} {ws : List (List UInt8)} (hmem : ∀ w, w ∈ ws → w.length ≤ s.length) (k : Nat) : (ws.getD k []).length ≤ s.length := by
  rcases Nat.lt_or_ge k ws.length with hk | hk
  · exact hmem _ (by rw [List.getD_eq_getElem?_getD, List.getElem?_eq_getElem hk]; exact List.getElem_mem hk)
  · rw [List.getD_eq_getElem?_getD, List.getElem?_eq_none hk]
    exact Nat.zero_le _
theorem numsI_ne (s : List UInt8) : 0 < (numsI s).length := by
  rw [numsI, List.length_map]
  have := splitC_ne 44 s
  cases h : splitC 44 s with
  | nil => exact absurd h this
  | cons => simp only [List.length_cons]; omega
end Go.Proofs.YtcmpcpigchlhpaaDoor

/- A leg's text, read by the program: the walk by rows. -/
namespace Go.Proofs.YtcmpcpigchlhpaaDoor
set_option linter.unusedSectionVars false
open Go.Av
variable [Av.Start] [TabPow] [TabErr] [TabMax]
set_option maxRecDepth 10000
set_option maxHeartbeats 1000000
set_option linter.unusedSimpArgs false
set_option linter.unusedVariables false

/-- a leg of which nothing is held, its slices in the rows from r on -/
def Leg.dvc3 (l : Leg) (r : Nat) : List D := [.str l.name, .str l.src, .str l.dst, .int .i64 l.dep, .int .i64 l.arr, .int .i64 l.cap, .vec r false 1 0 l.limits.length l.limits.length, .vec (r + 1) false 1 0 l.sold.length l.sold.length, .vec (r + 2) false 1 0 l.bids.length l.bids.length, .slice [] .full]
def Leg.rows3 (l : Leg) : Hp := [.row (l.limits.map (.int .i64)), .row (l.sold.map (.int .i64)), .row (l.bids.map (.int .i64))]
omit [Av.Start] [TabPow] [TabErr] [TabMax] in
theorem Leg.dvc3_ren (l : Leg) {n k r : Nat} (h : n ≤ r) : ∀ j (h1 : j < (l.dvc3 (r + k)).length) (h2 : j < (l.dvc3 r).length), Ren n k ((l.dvc3 (r + k))[j]) ((l.dvc3 r)[j]) := by
  intro j h1 h2
  have hv : ∀ (i : Nat) ag sz len cp, Ren n k (.vec (r + k + i) ag sz 0 len cp) (.vec (r + i) ag sz 0 len cp) := fun i ag sz len cp => by
    have := Ren.vec (n := n) (k := k) (r + i) ag sz 0 len cp (by omega)
    rwa [show r + i + k = r + k + i by omega] at this
  match j, h2 with
  | 0, _ => exact .str _
  | 1, _ => exact .str _
  | 2, _ => exact .str _
  | 3, _ => exact .int _ _
  | 4, _ => exact .int _ _
  | 5, _ => exact .int _ _
  | 6, _ => exact hv 0 _ _ _ _
  | 7, _ => exact hv 1 _ _ _ _
  | 8, _ => exact hv 2 _ _ _ _
  | 9, _ => exact .full _
omit [Av.Start] [TabPow] [TabErr] [TabMax] in
theorem Leg.rows3_ren (l : Leg) (n k : Nat) : ∀ j (h1 : j < l.rows3.length) (h2 : j < l.rows3.length), RenOb n k (l.rows3[j]) (l.rows3[j]) := by
  intro j h1 h2
  match j, h2 with
  | 0, _ => exact ints_ren _ _ _
  | 1, _ => exact ints_ren _ _ _
  | 2, _ => exact ints_ren _ _ _
omit [Av.Start] [TabPow] [TabErr] [TabMax] in
theorem Leg.dvc3_cl (l : Leg) {r n : Nat} (h : r + 3 ≤ n) : ∀ d, d ∈ l.dvc3 r → Cl n d := by
  simp only [Leg.dvc3, List.mem_cons, List.not_mem_nil, or_false, forall_eq_or_imp, forall_eq, cl_int, cl_str, cl_vec, true_and]
  exact ⟨by omega, by omega, by omega, .slice _ _ (fun _ _ e => nomatch e)⟩
omit [Av.Start] [TabPow] [TabErr] [TabMax] in
theorem Leg.rows3_cl (l : Leg) (n : Nat) : ∀ x, x ∈ l.rows3 → ObCl n x := by
  simp only [Leg.rows3, List.mem_cons, List.not_mem_nil, or_false, forall_eq_or_imp, forall_eq]
  exact ⟨ints_cl _ _, ints_cl _ _, ints_cl _ _⟩
/-- such a leg stands in the heap -/
structure Leg3At (h : Hp) (q : Nat) (l : Leg) : Prop where
  limits : ob h q = .row (l.limits.map (.int .i64))
  sold : ob h (q + 1) = .row (l.sold.map (.int .i64))
  bids : ob h (q + 2) = .row (l.bids.map (.int .i64))
  lt : q + 2 < h.length
  holds : l.holds = []
omit [TabPow] [TabErr] [TabMax] in
theorem Leg3At.fw {h : Hp} {q : Nat} {l : Leg} (H : Leg3At h q l) : FW 0 h (.agg (l.dvc3 q)) l.d := by
  refine (fw_agg _ _ _ _).2 ⟨fw_refl _ _ _, fw_refl _ _ _, fw_refl _ _ _, fw_refl _ _ _, fw_refl _ _ _, fw_refl _ _ _, fw_ints (Nat.zero_le _) H.limits rfl, fw_ints (Nat.zero_le _) H.sold rfl, fw_ints (Nat.zero_le _) H.bids rfl, ?_, trivial⟩
  rw [H.holds]
  exact ⟨_, .refl _, .tok _ _⟩
omit [TabPow] [TabErr] [TabMax] in
theorem leg3_of {h g : Hp} {q : Nat} {l : Leg} (k : Nat) (e : q = h.length + k) (e0 : ob g k = .row (l.limits.map (.int .i64))) (e1 : ob g (k + 1) = .row (l.sold.map (.int .i64))) (e2 : ob g (k + 2) = .row (l.bids.map (.int .i64))) (hl : k + 2 < g.length) (e3 : l.holds = []) : Leg3At (h ++ g) q l := by
  subst e
  exact ⟨by rw [ob_app]; exact e0, by rw [Nat.add_assoc, ob_app]; exact e1, by rw [Nat.add_assoc, ob_app]; exact e2, by rw [List.length_append]; omega, e3⟩
end Go.Proofs.YtcmpcpigchlhpaaDoor

/- FnExactLegRead holds of every text. -/
namespace Go.Proofs.YtcmpcpigchlhpaaDoor
set_option linter.unusedSectionVars false
open Go.Av
variable [Av.Start] [TabPow] [TabErr] [TabMax]
set_option maxRecDepth 10000
set_option maxHeartbeats 1000000
set_option linter.unusedSimpArgs false
set_option linter.unusedVariables false

def markH3 (l : Leg) (q : Nat) (k : Int) (h : Hp) : Hp :=
  ((h.set q (.row ((seqI k l.limits.length).map (.int .i64)))).set (q + 1) (.row ((seqI (k + l.limits.length) l.sold.length).map (.int .i64)))).set (q + 2) (.row ((seqI (k + l.limits.length + l.sold.length) l.bids.length).map (.int .i64)))
omit [Av.Start] [TabPow] [TabErr] [TabMax] in
theorem markL_dvc3 (l : Leg) (k : Int) (q : Nat) : (markL l k).dvc3 q = l.dvc3 q := by
  simp only [markL, Leg.dvc3, seqI_len]
omit [Av.Start] [TabPow] [TabErr] [TabMax] in
theorem markH3_app (l : Leg) (k : Nat) (m : Int) (h g : Hp) : markH3 l (h.length + k) m (h ++ g) = h ++ markH3 l k m g := by
  simp only [markH3, Nat.add_assoc, set_app]
omit [TabPow] [TabErr] [TabMax] in
theorem Fz3d {h : Hp} {q : Nat} {l l' : Leg} (H : Leg3At h q l) : FzL h [.agg (l.dvc3 q), l'.d] [l.d, l'.d] := ⟨H.fw, l.cl0 0, fw_refl _ _ _, l'.cl0 0, trivial⟩
omit [TabPow] [TabErr] [TabMax] in
theorem Fz3m {h : Hp} {q : Nat} {l : Leg} {k n : Int} (H : Leg3At h q (markL l k)) : FzL h [.agg (l.dvc3 q), .int .i64 n] [(markL l k).d, .int .i64 n] := by
  rw [← markL_dvc3 l k q]
  exact ⟨H.fw, Leg.cl0 _ 0, fw_refl _ _ _, .int _ _, trivial⟩
theorem legVI_or (s : List UInt8) : (∃ l, legVI s = (l, true)) ∨ legVI s = (default, false) := by
  rw [legVI]
  split
  · rw [legOut]
    by_cases htx : (if legB (legRI (splitC 32 s)) = true then legT (legRI (splitC 32 s)) else []) = s
    · rw [if_pos htx]
      exact .inl ⟨_, rfl⟩
    · rw [if_neg htx]
      exact .inr rfl
  · exact .inr rfl
end Go.Proofs.YtcmpcpigchlhpaaDoor
