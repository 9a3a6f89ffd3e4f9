/- Contracts of functions of the program (C12). -/
import Derived.Test.YtmehbbepppjikaaC9
import Derived.Test.YtmehbbepppjikaaC10

namespace Go.Proofs.Ytmehbbepppjikaa
open Go.Av
set_option maxRecDepth 10000
set_option linter.unusedSimpArgs false
set_option linter.unusedVariables false

theorem solid_int (k : IntKind) (n : Int) : solid (.int k n) ↔ True := Iff.rfl
theorem solid_str (s : List UInt8) : solid (.str s) ↔ True := Iff.rfl
theorem solid_bool (b : Bool) : solid (.bool b) ↔ True := Iff.rfl
theorem solid_slice (es : List D) (t : Tok) : solid (.slice es t) ↔ True := Iff.rfl
theorem solid_agg (cs : List D) : solid (.agg cs) ↔ True := Iff.rfl
theorem solid_vec (r : Nat) (ag : Bool) (sz off len cp : Nat) : solid (.vec r ag sz off len cp) ↔ True := Iff.rfl
attribute [push_cast] solid_int solid_str solid_bool solid_slice solid_agg solid_vec
section
variable {P : Program} {mu : List Nat} {ops rest : List Oper} {dst : Option Tmp} {fr : Fr} {h : Hp} {K : St → Prop}
theorem callGF {f : FuncId} {ys : List D} (k : evOps P mu ops rest ⟨putO fr dst (.when false .junk), h⟩ K) : CallG P mu ops rest dst fr h K false f ys := ⟨.junk, [], (fun e => nomatch e), k⟩
theorem callQGF {f : FuncId} {ys : List D} (k : evQs P ops rest ⟨putO fr dst (.when false .junk), h⟩ K) : CallQG P ops rest dst fr h K false f ys := ⟨.junk, [], (fun e => nomatch e), k⟩
end
/-- the first place of which p tells, or -1 -/
def idxV {α : Type} (p : α → Bool) (xs : List α) : Int := if xs.any p then (xs.findIdx p : Nat) else -1
theorem any_getD {α : Type} {d : α} {p : α → Bool} {xs : List α} : xs.any p = true ↔ ∃ i, i < xs.length ∧ p (xs.getD i d) = true := by
  rw [List.any_eq_true]
  constructor
  · rintro ⟨x, hx, hp⟩
    obtain ⟨i, hi, rfl⟩ := List.mem_iff_getElem.1 hx
    exact ⟨i, hi, by rw [List.getD_eq_getElem?_getD, List.getElem?_eq_getElem hi]; exact hp⟩
  · rintro ⟨i, hi, hp⟩
    rw [List.getD_eq_getElem?_getD, List.getElem?_eq_getElem hi] at hp
    exact ⟨_, List.getElem_mem hi, hp⟩
theorem findIdx_get {α : Type} {d : α} {p : α → Bool} : ∀ (xs : List α) (k : Nat), k < xs.length → (∀ i, i < k → p (xs.getD i d) = false) → p (xs.getD k d) = true → xs.findIdx p = k
  | [], k, h, _, _ => absurd h (Nat.not_lt_zero k)
  | x :: xs, 0, _, _, h => by
    have : p x = true := h
    simp [List.findIdx_cons, this]
  | x :: xs, k + 1, h, ha, hb => by
    have h0 : p x = false := ha 0 (by omega)
    have := findIdx_get xs k (by simpa using h) (fun i hi => ha (i + 1) (by omega)) hb
    simp [List.findIdx_cons, h0, this]
theorem idxV_at {α : Type} (d : α) {p : α → Bool} {xs : List α} {k : Nat} (hk : k < xs.length) (ha : ∀ i, i < k → p (xs.getD i d) = false) (hb : p (xs.getD k d) = true) : idxV p xs = k := by
  rw [idxV, if_pos ((any_getD (d := d)).2 ⟨k, hk, hb⟩), findIdx_get xs k hk ha hb]
theorem idxV_none {α : Type} (d : α) {p : α → Bool} {xs : List α} (ha : ∀ i, i < xs.length → p (xs.getD i d) = false) : idxV p xs = -1 := by
  rw [idxV, if_neg]
  intro h
  obtain ⟨i, hi, hp⟩ := (any_getD (d := d)).1 h
  rw [ha i hi] at hp
  cases hp
theorem idxV_lo {α : Type} {p : α → Bool} {xs : List α} : -1 ≤ idxV p xs := by
  rw [idxV]
  split <;> omega
/-- what the place is, if there is one -/
theorem idxV_spec {α : Type} (d : α) {p : α → Bool} {xs : List α} (h : 0 ≤ idxV p xs) : ∃ k : Nat, idxV p xs = k ∧ k < xs.length ∧ p (xs.getD k d) = true ∧ ∀ i, i < k → p (xs.getD i d) = false := by
  rw [idxV] at h ⊢
  split at h
  · rename_i ha
    rw [if_pos ha]
    have hlt : xs.findIdx p < xs.length := List.findIdx_lt_length.2 (by simpa using ha)
    refine ⟨_, rfl, hlt, ?_, fun i hi => ?_⟩
    · rw [List.getD_eq_getElem?_getD, List.getElem?_eq_getElem hlt]
      exact List.findIdx_getElem
    · rw [List.getD_eq_getElem?_getD, List.getElem?_eq_getElem (by omega)]
      have := List.not_of_lt_findIdx hi
      simpa using this
  · omega
theorem idxV_neg {α : Type} (d : α) {p : α → Bool} {xs : List α} (h : idxV p xs < 0) : ∀ i, i < xs.length → p (xs.getD i d) = false := by
  intro i hi
  cases e : p (xs.getD i d) with
  | false => rfl
  | true =>
    rw [idxV, if_pos ((any_getD (d := d)).2 ⟨i, hi, e⟩)] at h
    omega
theorem getD_take {α : Type} (d : α) (xs : List α) {i k : Nat} (h : i < k) : (xs.take k).getD i d = xs.getD i d := by
  simp [List.getD_eq_getElem?_getD, List.getElem?_take, h]
theorem getD_at {α : Type} {f : α → D} {z : D} (d : α) {xs : List α} {k : Nat} (h : k < xs.length) : (xs.map f).getD k z = f (xs.getD k d) := by
  simp [List.getD_eq_getElem?_getD, List.getElem?_map, List.getElem?_eq_getElem h]
theorem slice_fit {es : List D} {t : Tok} (h : fitsD (.slice es t)) : es.length ≤ 1073741824 := by simpa [fitsD, flen, lenMax] using h

theorem allSz_legs (xs : List Leg) : AllSz 10 (xs.map Leg.d) ↔ True := allSz_map 10 _ xs (fun _ => rfl)
attribute [push_cast] allSz_legs
def zLeg : D := .agg [.str [], .str [], .str [], .int .i64 0, .int .i64 0, .int .i64 0, .slice [] .full, .slice [] .full, .slice [] .full, .slice [] .full]
theorem leg_at {xs : List Leg} {k : Nat} (h : k < xs.length) : (xs.map Leg.d).getD k (.agg [.str [], .str [], .str [], .int .i64 0, .int .i64 0, .int .i64 0, .slice [] .full, .slice [] .full, .slice [] .full, .slice [] .full]) = .agg (xs.getD k default).cs := getD_at default h
def dL (xs : List Leg) : D := .slice (xs.map Leg.d) .no

theorem indexLeg_gives (xs : List Leg) (f : FuncId) (caps : List D) (h : Hp) (p : Leg → Bool) (hp : ∀ x : Leg, Gives Try.prog f (x.d :: caps) h (.bool (p x))) (hc : ∀ c, c ∈ caps → Cl h.length c) :
    Gives Try.prog 126 [.slice (xs.map Leg.d) .no, .fn f caps] h (.int .i64 (idxV p xs)) := by
  refine meets_of [] mixed Try.func126 rfl (by kernel_rfl) (by kernel_rfl) (by rw [Try.ntmps126]; simp only [List.length_cons, List.length_nil]; omega) (fun hf => ?_)
  rw [Try.results126]
  have hl : xs.length ≤ 1073741824 := by simpa using slice_fit (hf (.slice (xs.map Leg.d) .no) (by simp))
  clear hf
  simp -implicitDefEqProofs only [push_cast, Nat.reduceEqDiff, Nat.reduceBEq, Nat.reduceBNe, Nat.reduceAdd, Nat.reduceMul, Nat.reduceLT, Nat.reduceLeDiff, Nat.reduceSub, reduceCtorEq, Int.reduceToNat, ↓reduceIte]
  refine ev_loop0 [] (fun k : Nat => [(0, .slice (xs.map Leg.d) .no), (1, .fn f caps), (7, .int .i64 xs.length), (8, .int .i64 k)]) (fun k => k ≤ xs.length ∧ ∀ i, i < k → p (xs.getD i default) = false) (fun k => xs.length - k) 0 trivial ⟨Nat.zero_le _, fun i hi => absurd hi (Nat.not_lt_zero i)⟩ ?_ ?_
  · refine ⟨rfl, [], ?_⟩
    simp -implicitDefEqProofs only [Int.natCast_add, Int.cast_ofNat_Int, List.length_nil, Nat.le_refl, WeakTo, tokSts, tokOks, List.append_cancel_left_eq, exists_eq_left', exists_eq_left, List.append_cancel_left_eq, List.take_length, ObCl, and_true, true_and, push_cast, Nat.reduceEqDiff, Nat.reduceBEq, Nat.reduceBNe, Nat.reduceAdd, Nat.reduceMul, Nat.reduceLT, Nat.reduceLeDiff, Nat.reduceSub, reduceCtorEq, Int.reduceToNat, ↓reduceIte]
    exact hc
  · intro k hk
    have hw : IntKind.i64.wrap ((k : Int) + 1) = k + 1 := wrap_id (by omega) (by omega)
    rcases Nat.lt_or_ge k xs.length with hlt | hge
    · have hL := leg_at hlt
      try simp -implicitDefEqProofs only [hw, hL, push_cast, Nat.reduceEqDiff, Nat.reduceBEq, Nat.reduceBNe, Nat.reduceAdd, Nat.reduceMul, Nat.reduceLT, Nat.reduceLeDiff, Nat.reduceSub, reduceCtorEq, Int.reduceToNat, ↓reduceIte]
      repeat'
        (first
         | (refine uYes ?_; first | exact List.mem_cons_self | (simp only [List.mem_cons, List.not_mem_nil, or_false, true_or, or_true]; done))
         | (refine uNo (by kernel_rfl))
         | (refine flatMk ?_; kernel_rfl)
         | (refine And.intro ?_ ?_)
         | (intro hx)
         | ((first
             | (refine callGF ?_)
             | (refine callQGF ?_)
             | (refine skipG ?_)
             | (refine callS (hp (xs.getD k default)) ?_)
             | (refine callQ (hp (xs.getD k default)) ?_)
             | (refine callG (fun hc => (hp (xs.getD k default))) ?_)
             | (refine callQG (fun hc => (hp (xs.getD k default))) ?_)); simp -implicitDefEqProofs only [hw, hL, push_cast, Nat.reduceEqDiff, Nat.reduceBEq, Nat.reduceBNe, Nat.reduceAdd, Nat.reduceMul, Nat.reduceLT, Nat.reduceLeDiff, Nat.reduceSub, reduceCtorEq, Int.reduceToNat, ↓reduceIte]))
      all_goals first
        | omega
        | (rename_i hx
           refine round_mk0 (k + 1) ⟨by omega, fun i hi => ?_⟩ (by omega) ⟨[], ?_⟩
           · by_cases e : i = k
             · exact e ▸ hx
             · exact hk.2 i (by omega)
           · simp -implicitDefEqProofs only [hw, Int.natCast_add, Int.cast_ofNat_Int, List.length_nil, Nat.le_refl, WeakTo, tokSts, tokOks, List.append_cancel_left_eq, exists_eq_left', exists_eq_left, List.append_cancel_left_eq, List.take_length, ObCl, and_true, true_and, push_cast, Nat.reduceEqDiff, Nat.reduceBEq, Nat.reduceBNe, Nat.reduceAdd, Nat.reduceMul, Nat.reduceLT, Nat.reduceLeDiff, Nat.reduceSub, reduceCtorEq, Int.reduceToNat, ↓reduceIte]
             exact hc)
        | (rename_i hx
           rw [idxV_at default hlt hk.2 hx])
    · try simp -implicitDefEqProofs only [hw, push_cast, Nat.reduceEqDiff, Nat.reduceBEq, Nat.reduceBNe, Nat.reduceAdd, Nat.reduceMul, Nat.reduceLT, Nat.reduceLeDiff, Nat.reduceSub, reduceCtorEq, Int.reduceToNat, ↓reduceIte]
      repeat'
        (first
         | (refine uYes ?_; first | exact List.mem_cons_self | (simp only [List.mem_cons, List.not_mem_nil, or_false, true_or, or_true]; done))
         | (refine uNo (by kernel_rfl))
         | (refine flatMk ?_; kernel_rfl)
         | (refine And.intro ?_ ?_)
         | (intro hx)
         | ((first
             | (refine callGF ?_)
             | (refine callQGF ?_)
             | (refine skipG ?_)
             | (refine callS (hp default) ?_)
             | (refine callQ (hp default) ?_)
             | (refine callG (fun hc => (hp default)) ?_)
             | (refine callQG (fun hc => (hp default)) ?_)); simp -implicitDefEqProofs only [hw, push_cast, Nat.reduceEqDiff, Nat.reduceBEq, Nat.reduceBNe, Nat.reduceAdd, Nat.reduceMul, Nat.reduceLT, Nat.reduceLeDiff, Nat.reduceSub, reduceCtorEq, Int.reduceToNat, ↓reduceIte]))
      all_goals first
        | omega
        | (rw [idxV_none (default : Leg) (fun i hi => hk.2 i (by omega))])
theorem ob_old {h ls : Hp} {r : Nat} {cs : List D} (hr : ob h r = .row cs) : ob (h ++ ls) r = .row cs := by
  simp only [ob, List.getD_eq_getElem?_getD] at hr ⊢
  have : r < h.length := by
    rcases Nat.lt_or_ge r h.length with h1 | h1
    · exact h1
    · rw [List.getElem?_eq_none h1] at hr
      cases hr
  rw [List.getElem?_append_left this]
  exact hr
theorem legAt1_gives (l : Leg) (s : List UInt8) (r : Nat) (h : Hp) (hr : ob h r = .row [.str s]) : Gives Try.prog 127 [l.d, .ptr r 0] h (.bool (decide (l.name = s))) := by
  refine meets_of [] mixed Try.func127 rfl (by kernel_rfl) (by kernel_rfl) (by rw [Try.ntmps127]; simp only [List.length_cons, List.length_nil]; omega) (fun hf => ?_)
  rw [Try.results127]
  have hr' := fun ls => ob_old (ls := ls) hr
  try simp -implicitDefEqProofs only [hr', push_cast, Nat.reduceEqDiff, Nat.reduceBEq, Nat.reduceBNe, Nat.reduceAdd, Nat.reduceMul, Nat.reduceLT, Nat.reduceLeDiff, Nat.reduceSub, reduceCtorEq, Int.reduceToNat, ↓reduceIte]
  repeat'
    (first
     | (refine uYes ?_; first | exact List.mem_cons_self | (simp only [List.mem_cons, List.not_mem_nil, or_false, true_or, or_true]; done))
     | (refine uNo (by kernel_rfl))
     | (refine flatMk ?_; kernel_rfl)
     | (refine And.intro ?_ ?_)
     | (intro hx)
     | ((first
         | (refine callGF ?_)
         | (refine callQGF ?_)
         | (refine skipG ?_)
         | (refine callS (in_gives ..) ?_)
         | (refine callQ (in_gives ..) ?_)
         | (refine callG (fun hc => (in_gives ..)) ?_)
         | (refine callQG (fun hc => (in_gives ..)) ?_)); simp -implicitDefEqProofs only [hr', push_cast, Nat.reduceEqDiff, Nat.reduceBEq, Nat.reduceBNe, Nat.reduceAdd, Nat.reduceMul, Nat.reduceLT, Nat.reduceLeDiff, Nat.reduceSub, reduceCtorEq, Int.reduceToNat, ↓reduceIte]))
def legIdx (net : List Leg) (s : List UInt8) : Int := idxV (fun l => decide (l.name = s)) net
theorem legAt_gives (net : List Leg) (s : List UInt8) (h : Hp) : Gives Try.prog 95 [.slice (net.map Leg.d) .no, .str s] h (.int .i64 (legIdx net s)) := by
  refine meets_of [] mixed Try.func95 rfl (by kernel_rfl) (by kernel_rfl) (by rw [Try.ntmps95]; simp only [List.length_cons, List.length_nil]; omega) (fun hf => ?_)
  rw [Try.results95]
  clear hf
  try simp -implicitDefEqProofs only [push_cast, Nat.reduceEqDiff, Nat.reduceBEq, Nat.reduceBNe, Nat.reduceAdd, Nat.reduceMul, Nat.reduceLT, Nat.reduceLeDiff, Nat.reduceSub, reduceCtorEq, Int.reduceToNat, ↓reduceIte]
  repeat'
    (first
     | (refine uYes ?_; first | exact List.mem_cons_self | (simp only [List.mem_cons, List.not_mem_nil, or_false, true_or, or_true]; done))
     | (refine uNo (by kernel_rfl))
     | (refine flatMk ?_; kernel_rfl)
     | (refine And.intro ?_ ?_)
     | (intro hx)
     | ((first
         | (refine callGF ?_)
         | (refine callQGF ?_)
         | (refine skipG ?_)
         | (refine callS (indexLeg_gives net _ _ _ (fun l => decide (l.name = s)) (fun l => legAt1_gives l s _ _ (by simp only [ob_app0, ob_zero])) (by simp -implicitDefEqProofs only [push_cast, Nat.reduceEqDiff, Nat.reduceBEq, Nat.reduceBNe, Nat.reduceAdd, Nat.reduceMul, Nat.reduceLT, Nat.reduceLeDiff, Nat.reduceSub, reduceCtorEq, Int.reduceToNat, ↓reduceIte])) ?_)
         | (refine callQ (indexLeg_gives net _ _ _ (fun l => decide (l.name = s)) (fun l => legAt1_gives l s _ _ (by simp only [ob_app0, ob_zero])) (by simp -implicitDefEqProofs only [push_cast, Nat.reduceEqDiff, Nat.reduceBEq, Nat.reduceBNe, Nat.reduceAdd, Nat.reduceMul, Nat.reduceLT, Nat.reduceLeDiff, Nat.reduceSub, reduceCtorEq, Int.reduceToNat, ↓reduceIte])) ?_)
         | (refine callG (fun hc => (indexLeg_gives net _ _ _ (fun l => decide (l.name = s)) (fun l => legAt1_gives l s _ _ (by simp only [ob_app0, ob_zero])) (by simp -implicitDefEqProofs only [push_cast, Nat.reduceEqDiff, Nat.reduceBEq, Nat.reduceBNe, Nat.reduceAdd, Nat.reduceMul, Nat.reduceLT, Nat.reduceLeDiff, Nat.reduceSub, reduceCtorEq, Int.reduceToNat, ↓reduceIte]))) ?_)
         | (refine callQG (fun hc => (indexLeg_gives net _ _ _ (fun l => decide (l.name = s)) (fun l => legAt1_gives l s _ _ (by simp only [ob_app0, ob_zero])) (by simp -implicitDefEqProofs only [push_cast, Nat.reduceEqDiff, Nat.reduceBEq, Nat.reduceBNe, Nat.reduceAdd, Nat.reduceMul, Nat.reduceLT, Nat.reduceLeDiff, Nat.reduceSub, reduceCtorEq, Int.reduceToNat, ↓reduceIte]))) ?_)); simp -implicitDefEqProofs only [push_cast, Nat.reduceEqDiff, Nat.reduceBEq, Nat.reduceBNe, Nat.reduceAdd, Nat.reduceMul, Nat.reduceLT, Nat.reduceLeDiff, Nat.reduceSub, reduceCtorEq, Int.reduceToNat, ↓reduceIte]))
  all_goals rfl
theorem specLegAt_gives (net : List Leg) (s : List UInt8) (h : Hp) : Gives Try.prog 96 [.slice (net.map Leg.d) .no, .str s] h (.int .i64 (legIdx net s)) := by
  refine meets_of [] mixed Try.func96 rfl (by kernel_rfl) (by kernel_rfl) (by rw [Try.ntmps96]; simp only [List.length_cons, List.length_nil]; omega) (fun hf => ?_)
  rw [Try.results96]
  have hl : net.length ≤ 1073741824 := by simpa using slice_fit (hf (.slice (net.map Leg.d) .no) (by simp))
  clear hf
  simp -implicitDefEqProofs only [push_cast, Nat.reduceEqDiff, Nat.reduceBEq, Nat.reduceBNe, Nat.reduceAdd, Nat.reduceMul, Nat.reduceLT, Nat.reduceLeDiff, Nat.reduceSub, reduceCtorEq, Int.reduceToNat, ↓reduceIte]
  refine ev_loop0 [] (fun k : Nat => [(0, .slice (net.map Leg.d) .no), (1, .str s), (5, .int .i64 k)]) (fun k => k ≤ net.length ∧ ∀ i, i < k → ¬(net.getD i default).name = s) (fun k => net.length - k) 0 trivial ⟨Nat.zero_le _, fun i hi => absurd hi (Nat.not_lt_zero i)⟩ ?_ ?_
  · refine ⟨rfl, [], ?_⟩
    simp -implicitDefEqProofs only [Int.natCast_add, Int.cast_ofNat_Int, List.length_nil, Nat.le_refl, WeakTo, tokSts, tokOks, List.append_cancel_left_eq, exists_eq_left', exists_eq_left, List.append_cancel_left_eq, List.take_length, ObCl, and_true, true_and, push_cast, Nat.reduceEqDiff, Nat.reduceBEq, Nat.reduceBNe, Nat.reduceAdd, Nat.reduceMul, Nat.reduceLT, Nat.reduceLeDiff, Nat.reduceSub, reduceCtorEq, Int.reduceToNat, ↓reduceIte]
  · intro k hk
    have hw : IntKind.i64.wrap ((k : Int) + 1) = k + 1 := wrap_id (by omega) (by omega)
    rcases Nat.lt_or_ge k net.length with hlt | hge
    · have hL := leg_at hlt
      try simp -implicitDefEqProofs only [hw, hL, push_cast, Nat.reduceEqDiff, Nat.reduceBEq, Nat.reduceBNe, Nat.reduceAdd, Nat.reduceMul, Nat.reduceLT, Nat.reduceLeDiff, Nat.reduceSub, reduceCtorEq, Int.reduceToNat, ↓reduceIte]
      repeat'
        (first
         | (refine uYes ?_; first | exact List.mem_cons_self | (simp only [List.mem_cons, List.not_mem_nil, or_false, true_or, or_true]; done))
         | (refine uNo (by kernel_rfl))
         | (refine flatMk ?_; kernel_rfl)
         | (refine And.intro ?_ ?_)
         | (intro hx)
         | ((first
             | (refine callGF ?_)
             | (refine callQGF ?_)
             | (refine skipG ?_)
             | (refine callS (in_gives ..) ?_)
             | (refine callQ (in_gives ..) ?_)
             | (refine callG (fun hc => (in_gives ..)) ?_)
             | (refine callQG (fun hc => (in_gives ..)) ?_)); simp -implicitDefEqProofs only [hw, hL, push_cast, Nat.reduceEqDiff, Nat.reduceBEq, Nat.reduceBNe, Nat.reduceAdd, Nat.reduceMul, Nat.reduceLT, Nat.reduceLeDiff, Nat.reduceSub, reduceCtorEq, Int.reduceToNat, ↓reduceIte]))
      all_goals first
        | omega
        | (rename_i hx
           refine round_mk0 (k + 1) ⟨by omega, fun i hi => ?_⟩ (by omega) ⟨[], ?_⟩
           · by_cases e : i = k
             · rw [e]; exact hx
             · exact hk.2 i (by omega)
           · simp -implicitDefEqProofs only [hw, Int.natCast_add, Int.cast_ofNat_Int, List.length_nil, Nat.le_refl, WeakTo, tokSts, tokOks, List.append_cancel_left_eq, exists_eq_left', exists_eq_left, List.append_cancel_left_eq, List.take_length, ObCl, and_true, true_and, push_cast, Nat.reduceEqDiff, Nat.reduceBEq, Nat.reduceBNe, Nat.reduceAdd, Nat.reduceMul, Nat.reduceLT, Nat.reduceLeDiff, Nat.reduceSub, reduceCtorEq, Int.reduceToNat, ↓reduceIte])
        | (rename_i hx
           rw [legIdx, idxV_at default hlt (fun i hi => decide_eq_false (hk.2 i hi)) (decide_eq_true hx)])
    · try simp -implicitDefEqProofs only [hw, push_cast, Nat.reduceEqDiff, Nat.reduceBEq, Nat.reduceBNe, Nat.reduceAdd, Nat.reduceMul, Nat.reduceLT, Nat.reduceLeDiff, Nat.reduceSub, reduceCtorEq, Int.reduceToNat, ↓reduceIte]
      repeat'
        (first
         | (refine uYes ?_; first | exact List.mem_cons_self | (simp only [List.mem_cons, List.not_mem_nil, or_false, true_or, or_true]; done))
         | (refine uNo (by kernel_rfl))
         | (refine flatMk ?_; kernel_rfl)
         | (refine And.intro ?_ ?_)
         | (intro hx)
         | ((first
             | (refine callGF ?_)
             | (refine callQGF ?_)
             | (refine skipG ?_)
             | (refine callS (in_gives ..) ?_)
             | (refine callQ (in_gives ..) ?_)
             | (refine callG (fun hc => (in_gives ..)) ?_)
             | (refine callQG (fun hc => (in_gives ..)) ?_)); simp -implicitDefEqProofs only [hw, push_cast, Nat.reduceEqDiff, Nat.reduceBEq, Nat.reduceBNe, Nat.reduceAdd, Nat.reduceMul, Nat.reduceLT, Nat.reduceLeDiff, Nat.reduceSub, reduceCtorEq, Int.reduceToNat, ↓reduceIte]))
      all_goals first
        | omega
        | (rw [legIdx, idxV_none (default : Leg) (fun i hi => decide_eq_false (hk.2 i (by omega)))])

def netAt (net : List Leg) (i : Nat) : Bool := legB (net.getD i default) && decide (legIdx net (net.getD i default).name = i)
def netB (net : List Leg) : Bool := allB net.length (netAt net) && decide ((net.length : Int) ≤ 6)
theorem netAt_take (net : List Leg) {i : Nat} (hi : i < net.length) : netAt net i = (legB (net.getD i default) && !decide (0 ≤ legIdx (net.take i) (net.getD i default).name)) := by
  rw [netAt]
  congr 1
  rw [Bool.eq_iff_iff]
  simp only [decide_eq_true_eq, Bool.not_eq_true', decide_eq_false_iff_not]
  have hp : decide ((net.getD i default).name = (net.getD i default).name) = true := by simp
  constructor
  · intro h hn
    obtain ⟨k, k1, k2, k3, _⟩ := idxV_spec (default : Leg) hn
    rw [List.length_take] at k2
    rw [getD_take default net (by omega)] at k3
    obtain ⟨j, j1, j2, j3, j4⟩ := idxV_spec (default : Leg) (xs := net) (p := fun l => decide (l.name = (net.getD i default).name)) (by rw [legIdx] at h; omega)
    rw [legIdx] at h
    have : j = i := by omega
    subst this
    have := j4 k (by omega)
    rw [k3] at this
    cases this
  · intro h
    have h' := idxV_neg (default : Leg) (xs := net.take i) (p := fun l => decide (l.name = (net.getD i default).name)) (by rw [legIdx] at h; omega)
    rw [legIdx, idxV_at default hi (fun j hj => ?_) hp]
    have := h' j (by rw [List.length_take]; omega)
    rw [getD_take default net hj] at this
    exact this

theorem implNetOk_gives (net : List Leg) (h : Hp) : Gives Try.prog 37 [.slice (net.map Leg.d) .no] h (.bool (netB net)) := by
  refine meets_of [] mixed Try.func37 rfl (by kernel_rfl) (by kernel_rfl) (by rw [Try.ntmps37]; simp only [List.length_cons, List.length_nil]; omega) (fun hf => ?_)
  rw [Try.results37]
  have hl : net.length ≤ 1073741824 := by simpa using slice_fit (hf (.slice (net.map Leg.d) .no) (by simp))
  clear hf
  simp -implicitDefEqProofs only [push_cast, Nat.reduceEqDiff, Nat.reduceBEq, Nat.reduceBNe, Nat.reduceAdd, Nat.reduceMul, Nat.reduceLT, Nat.reduceLeDiff, Nat.reduceSub, reduceCtorEq, Int.reduceToNat, ↓reduceIte]
  refine ev_loop0 [] (fun k : Nat => [(0, .slice (net.map Leg.d) .no), (5, .slice (net.map Leg.d) .no), (6, .int .i64 net.length), (7, .int .i64 k)]) (fun k => k ≤ net.length ∧ ∀ i, i < k → netAt net i = true) (fun k => net.length - k) 0 trivial ⟨Nat.zero_le _, fun i hi => absurd hi (Nat.not_lt_zero i)⟩ ?_ ?_
  · refine ⟨rfl, [], ?_⟩
    simp -implicitDefEqProofs only [Int.natCast_add, Int.cast_ofNat_Int, List.length_nil, Nat.le_refl, WeakTo, tokSts, tokOks, List.append_cancel_left_eq, exists_eq_left', exists_eq_left, List.append_cancel_left_eq, List.take_length, ObCl, and_true, true_and, push_cast, Nat.reduceEqDiff, Nat.reduceBEq, Nat.reduceBNe, Nat.reduceAdd, Nat.reduceMul, Nat.reduceLT, Nat.reduceLeDiff, Nat.reduceSub, reduceCtorEq, Int.reduceToNat, ↓reduceIte]
  · intro k hk
    have hw : IntKind.i64.wrap ((k : Int) + 1) = k + 1 := wrap_id (by omega) (by omega)
    rcases Nat.lt_or_ge k net.length with hlt | hge
    · have hL := leg_at hlt
      have hA := netAt_take net hlt
      try simp -implicitDefEqProofs only [hw, hL, push_cast, Nat.reduceEqDiff, Nat.reduceBEq, Nat.reduceBNe, Nat.reduceAdd, Nat.reduceMul, Nat.reduceLT, Nat.reduceLeDiff, Nat.reduceSub, reduceCtorEq, Int.reduceToNat, ↓reduceIte]
      repeat'
        (first
         | (refine uYes ?_; first | exact List.mem_cons_self | (simp only [List.mem_cons, List.not_mem_nil, or_false, true_or, or_true]; done))
         | (refine uNo (by kernel_rfl))
         | (refine flatMk ?_; kernel_rfl)
         | (refine And.intro ?_ ?_)
         | (intro hx)
         | ((first
             | (refine callGF ?_)
             | (refine callQGF ?_)
             | (refine skipG ?_)
             | (refine callS (implLegOk_gives (net.getD k default) _) ?_)
             | (refine callQ (implLegOk_gives (net.getD k default) _) ?_)
             | (refine callG (fun hc => (implLegOk_gives (net.getD k default) _)) ?_)
             | (refine callQG (fun hc => (implLegOk_gives (net.getD k default) _)) ?_)
             | (refine callS (legAt_gives (net.take k) _ _) ?_)
             | (refine callQ (legAt_gives (net.take k) _ _) ?_)
             | (refine callG (fun hc => (legAt_gives (net.take k) _ _)) ?_)
             | (refine callQG (fun hc => (legAt_gives (net.take k) _ _)) ?_)); simp -implicitDefEqProofs only [hw, hL, push_cast, Nat.reduceEqDiff, Nat.reduceBEq, Nat.reduceBNe, Nat.reduceAdd, Nat.reduceMul, Nat.reduceLT, Nat.reduceLeDiff, Nat.reduceSub, reduceCtorEq, Int.reduceToNat, ↓reduceIte]))
      all_goals first
        | omega
        | (rename_i hx
           refine round_mk0 (k + 1) ⟨by omega, allB_step hk.2 ?_⟩ (by omega) ?_
           · rw [hA]; grind
           · simp -implicitDefEqProofs only [hw, Int.natCast_add, Int.cast_ofNat_Int, List.length_nil, Nat.le_refl, WeakTo, tokSts, tokOks, List.append_cancel_left_eq, exists_eq_left', exists_eq_left, List.append_cancel_left_eq, List.take_length, ObCl, and_true, true_and, push_cast, Nat.reduceEqDiff, Nat.reduceBEq, Nat.reduceBNe, Nat.reduceAdd, Nat.reduceMul, Nat.reduceLT, Nat.reduceLeDiff, Nat.reduceSub, reduceCtorEq, Int.reduceToNat, ↓reduceIte])
        | (rename_i hx
           rw [netB, allB_f k (by omega) (by rw [hA]; grind)]
           rfl)
        | skip
    · try simp -implicitDefEqProofs only [hw, push_cast, Nat.reduceEqDiff, Nat.reduceBEq, Nat.reduceBNe, Nat.reduceAdd, Nat.reduceMul, Nat.reduceLT, Nat.reduceLeDiff, Nat.reduceSub, reduceCtorEq, Int.reduceToNat, ↓reduceIte]
      repeat'
        (first
         | (refine uYes ?_; first | exact List.mem_cons_self | (simp only [List.mem_cons, List.not_mem_nil, or_false, true_or, or_true]; done))
         | (refine uNo (by kernel_rfl))
         | (refine flatMk ?_; kernel_rfl)
         | (refine And.intro ?_ ?_)
         | (intro hx)
         | ((first
             | (refine callGF ?_)
             | (refine callQGF ?_)
             | (refine skipG ?_)
             | (refine callS (in_gives ..) ?_)
             | (refine callQ (in_gives ..) ?_)
             | (refine callG (fun hc => (in_gives ..)) ?_)
             | (refine callQG (fun hc => (in_gives ..)) ?_)); simp -implicitDefEqProofs only [hw, push_cast, Nat.reduceEqDiff, Nat.reduceBEq, Nat.reduceBNe, Nat.reduceAdd, Nat.reduceMul, Nat.reduceLT, Nat.reduceLeDiff, Nat.reduceSub, reduceCtorEq, Int.reduceToNat, ↓reduceIte]))
      all_goals first
        | omega
        | (obtain rfl : k = net.length := by omega
           rw [netB, allB_t hk.2]
           rfl)
theorem specNetOk_gives (net : List Leg) (h : Hp) : Gives Try.prog 38 [.slice (net.map Leg.d) .no] h (.bool (netB net)) := by
  refine meets_of [] mixed Try.func38 rfl (by kernel_rfl) (by kernel_rfl) (by rw [Try.ntmps38]; simp only [List.length_cons, List.length_nil]; omega) (fun hf => ?_)
  rw [Try.results38]
  have hl : net.length ≤ 1073741824 := by simpa using slice_fit (hf (.slice (net.map Leg.d) .no) (by simp))
  clear hf
  simp -implicitDefEqProofs only [push_cast, Nat.reduceEqDiff, Nat.reduceBEq, Nat.reduceBNe, Nat.reduceAdd, Nat.reduceMul, Nat.reduceLT, Nat.reduceLeDiff, Nat.reduceSub, reduceCtorEq, Int.reduceToNat, ↓reduceIte]
  refine ev_loop0 [] (fun k : Nat => [(0, .slice (net.map Leg.d) .no), (3, .int .i64 k)]) (fun k => k ≤ net.length ∧ ∀ i, i < k → netAt net i = true) (fun k => net.length - k) 0 trivial ⟨Nat.zero_le _, fun i hi => absurd hi (Nat.not_lt_zero i)⟩ ?_ ?_
  · refine ⟨rfl, [], ?_⟩
    simp -implicitDefEqProofs only [Int.natCast_add, Int.cast_ofNat_Int, List.length_nil, Nat.le_refl, WeakTo, tokSts, tokOks, List.append_cancel_left_eq, exists_eq_left', exists_eq_left, List.append_cancel_left_eq, List.take_length, ObCl, and_true, true_and, push_cast, Nat.reduceEqDiff, Nat.reduceBEq, Nat.reduceBNe, Nat.reduceAdd, Nat.reduceMul, Nat.reduceLT, Nat.reduceLeDiff, Nat.reduceSub, reduceCtorEq, Int.reduceToNat, ↓reduceIte]
  · intro k hk
    have hw : IntKind.i64.wrap ((k : Int) + 1) = k + 1 := wrap_id (by omega) (by omega)
    rcases Nat.lt_or_ge k net.length with hlt | hge
    · have hL := leg_at hlt
      try simp -implicitDefEqProofs only [← legB_spec, hw, hL, push_cast, Nat.reduceEqDiff, Nat.reduceBEq, Nat.reduceBNe, Nat.reduceAdd, Nat.reduceMul, Nat.reduceLT, Nat.reduceLeDiff, Nat.reduceSub, reduceCtorEq, Int.reduceToNat, ↓reduceIte]
      repeat'
        (first
         | (refine uYes ?_; first | exact List.mem_cons_self | (simp only [List.mem_cons, List.not_mem_nil, or_false, true_or, or_true]; done))
         | (refine uNo (by kernel_rfl))
         | (refine flatMk ?_; kernel_rfl)
         | (refine And.intro ?_ ?_)
         | (intro hx)
         | ((first
             | (refine callGF ?_)
             | (refine callQGF ?_)
             | (refine skipG ?_)
             | (refine callS (specLegOk_gives (net.getD k default) _) ?_)
             | (refine callQ (specLegOk_gives (net.getD k default) _) ?_)
             | (refine callG (fun hc => (specLegOk_gives (net.getD k default) _)) ?_)
             | (refine callQG (fun hc => (specLegOk_gives (net.getD k default) _)) ?_)
             | (refine callS (specLegAt_gives net _ _) ?_)
             | (refine callQ (specLegAt_gives net _ _) ?_)
             | (refine callG (fun hc => (specLegAt_gives net _ _)) ?_)
             | (refine callQG (fun hc => (specLegAt_gives net _ _)) ?_)); simp -implicitDefEqProofs only [← legB_spec, hw, hL, push_cast, Nat.reduceEqDiff, Nat.reduceBEq, Nat.reduceBNe, Nat.reduceAdd, Nat.reduceMul, Nat.reduceLT, Nat.reduceLeDiff, Nat.reduceSub, reduceCtorEq, Int.reduceToNat, ↓reduceIte]))
      all_goals first
        | omega
        | (rename_i hx
           refine round_mk0 (k + 1) ⟨by omega, allB_step hk.2 ?_⟩ (by omega) ⟨[], ?_⟩
           · rw [netAt]; grind
           · simp -implicitDefEqProofs only [hw, Int.natCast_add, Int.cast_ofNat_Int, List.length_nil, Nat.le_refl, WeakTo, tokSts, tokOks, List.append_cancel_left_eq, exists_eq_left', exists_eq_left, List.append_cancel_left_eq, List.take_length, ObCl, and_true, true_and, push_cast, Nat.reduceEqDiff, Nat.reduceBEq, Nat.reduceBNe, Nat.reduceAdd, Nat.reduceMul, Nat.reduceLT, Nat.reduceLeDiff, Nat.reduceSub, reduceCtorEq, Int.reduceToNat, ↓reduceIte])
        | (rename_i hx
           rw [netB, allB_f k (by omega) (by rw [netAt]; grind)]
           rfl)
        | skip
    · try simp -implicitDefEqProofs only [hw, push_cast, Nat.reduceEqDiff, Nat.reduceBEq, Nat.reduceBNe, Nat.reduceAdd, Nat.reduceMul, Nat.reduceLT, Nat.reduceLeDiff, Nat.reduceSub, reduceCtorEq, Int.reduceToNat, ↓reduceIte]
      repeat'
        (first
         | (refine uYes ?_; first | exact List.mem_cons_self | (simp only [List.mem_cons, List.not_mem_nil, or_false, true_or, or_true]; done))
         | (refine uNo (by kernel_rfl))
         | (refine flatMk ?_; kernel_rfl)
         | (refine And.intro ?_ ?_)
         | (intro hx)
         | ((first
             | (refine callGF ?_)
             | (refine callQGF ?_)
             | (refine skipG ?_)
             | (refine callS (in_gives ..) ?_)
             | (refine callQ (in_gives ..) ?_)
             | (refine callG (fun hc => (in_gives ..)) ?_)
             | (refine callQG (fun hc => (in_gives ..)) ?_)); simp -implicitDefEqProofs only [hw, push_cast, Nat.reduceEqDiff, Nat.reduceBEq, Nat.reduceBNe, Nat.reduceAdd, Nat.reduceMul, Nat.reduceLT, Nat.reduceLeDiff, Nat.reduceSub, reduceCtorEq, Int.reduceToNat, ↓reduceIte]))
      all_goals first
        | omega
        | (obtain rfl : k = net.length := by omega
           rw [netB, allB_t hk.2]
           rfl)
end Go.Proofs.Ytmehbbepppjikaa
