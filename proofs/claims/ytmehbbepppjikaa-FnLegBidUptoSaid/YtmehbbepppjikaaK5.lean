/- Contracts of functions of the program (K5). -/
import Derived.Test.YtmehbbepppjikaaS1
import Derived.Test.YtmehbbepppjikaaEd

namespace Go.Proofs.Ytmehbbepppjikaa
open Go.Av
set_option maxRecDepth 10000
set_option linter.unusedSimpArgs false
set_option linter.unusedVariables false

theorem LegP.rises {l : Leg} (h : LegP l) : ∀ {i j : Nat}, i < j → j < l.holds.length → (l.holds.getD i default).txn < (l.holds.getD j default).txn := by
  intro i j hij
  induction j with
  | zero => omega
  | succ j ih =>
    intro hj
    have := h.rise (j + 1) hj (by omega)
    simp only [Nat.add_sub_cancel] at this
    by_cases e : i = j
    · exact e ▸ this
    · have := ih (by omega) (by omega)
      omega
theorem LegP.there_t {l : Leg} (h : LegP l) {n : Int} (ht : thereB l n = true) : heldIdx l n = placeN l n := by
  have hk := thereB_t ht
  simp only [thereB, Bool.and_eq_true, decide_eq_true_eq] at ht
  refine idxV_at default hk (fun i hi => decide_eq_false ?_) (decide_eq_true ht.2)
  have := h.rises hi hk
  omega
theorem LegP.there_f {l : Leg} (h : LegP l) {n : Int} (ht : thereB l n = false) : heldIdx l n < 0 := by
  have : heldIdx l n = -1 := idxV_none default fun i hi => by
    refine decide_eq_false fun e => ?_
    have hp : placeN l n = i := whileN_at default (by omega) (fun j hj => decide_eq_true (by have := h.rises hj hi; omega)) (fun _ => decide_eq_false (by omega))
    rw [thereB, hp, decide_eq_true hi, decide_eq_true e] at ht
    cases ht
  omega
theorem LegP.cls {l : Leg} (h : LegP l) {k : Nat} (hk : k < l.holds.length) : 0 ≤ (l.holds.getD k default).cls ∧ (l.holds.getD k default).cls < l.sold.length := by
  have hm : l.holds.getD k default ∈ l.holds := by
    rw [List.getD_eq_getElem?_getD, List.getElem?_eq_getElem hk]
    exact List.getElem_mem hk
  have := inB_iff.1 (h.seats _ hm).2.1
  have := h.sold
  omega
def settleL (l : Leg) (n : Int) (keep : Bool) : Leg := if thereB l n then { l with sold := soldV l (placeN l n) keep, holds := l.holds.eraseIdx (placeN l n) } else l
theorem settleL_keep (l : Leg) (n : Int) : settleL l n true = keepL l n := rfl
theorem settleL_drop (l : Leg) (n : Int) : settleL l n false = dropL l n := by
  rw [settleL, dropL]; rfl

theorem legAt7 (h : Hp) (a b c : Ob) (l : Leg) : LegAt (h ++ [a, b, .row (l.limits.map (.int .i64)), .row (l.sold.map (.int .i64)), .row (l.bids.map (.int .i64)), .row (l.holds.flatMap Hold.cs), c]) (h.length + 2) l :=
  ⟨ob_app h _ 2, ob_app h _ 3, ob_app h _ 4, ob_app h _ 5, by simp⟩
theorem settled_bad (l : Leg) (n : Int) (keep : Bool) (h : Hp) (hb : legB l = false) : Gives Try.prog 97 [l.d, .int .i64 n, .bool keep] h (Leg.d default) := by
  refine meets_of [] mixed Try.func97 rfl (by kernel_rfl) (by kernel_rfl) (by rw [Try.ntmps97]; simp only [List.length_cons, List.length_nil]; omega) (fun hf => ?_)
  rw [Try.results97]
  try simp -implicitDefEqProofs only [hb, push_cast, Nat.reduceEqDiff, Nat.reduceBEq, Nat.reduceBNe, Nat.reduceAdd, Nat.reduceMul, Nat.reduceLT, Nat.reduceLeDiff, Nat.reduceSub, reduceCtorEq, Int.reduceToNat, ↓reduceIte]
  repeat'
    (first
     | (refine uYes ?_; first | exact List.mem_cons_self | (simp only [List.mem_cons, List.not_mem_nil, or_false, true_or, or_true]; done))
     | (refine uNo (by kernel_rfl))
     | (refine flatMk ?_; kernel_rfl)
     | (refine And.intro ?_ ?_)
     | (intro hx)
     | ((first
         | (refine callGF ?_)
         | (refine callQGF ?_)
         | (refine skipG ?_)
         | (refine callS (implLegOk_gives l _) ?_)
         | (refine callQ (implLegOk_gives l _) ?_)
         | (refine callG (fun hc => (implLegOk_gives l _)) ?_)
         | (refine callQG (fun hc => (implLegOk_gives l _)) ?_)); simp -implicitDefEqProofs only [hb, push_cast, Nat.reduceEqDiff, Nat.reduceBEq, Nat.reduceBNe, Nat.reduceAdd, Nat.reduceMul, Nat.reduceLT, Nat.reduceLeDiff, Nat.reduceSub, reduceCtorEq, Int.reduceToNat, ↓reduceIte]))
  all_goals first
    | rfl
    | trace_state
theorem settled_none (l : Leg) (n : Int) (keep : Bool) (h : Hp) (hb : legB l = true) (ht : thereB l n = false) :
    Meets Try.prog 97 [l.d, .int .i64 n, .bool keep] h fun d' h' => d' = l.dv h.length ∧ h' = h ++ l.rows := by
  have hp := legP_of hb
  refine Meets.compact (hb := h) (junk := [.row l.cs, .row (l.dvc (h.length + 2))]) (rows1 := l.rows) rfl (old_ob h) (l.dv_ren (Nat.le_refl _)) rfl (l.rows_ren _ _) ?_
  refine meets_of [] mixed Try.func97 rfl (by kernel_rfl) (by kernel_rfl) (by rw [Try.ntmps97]; simp only [List.length_cons, List.length_nil]; omega) (fun hf => ?_)
  rw [Try.results97]
  clear hf
  try simp -implicitDefEqProofs only [hb, Leg.dv, Leg.dvc, Leg.rows, push_cast, Nat.reduceEqDiff, Nat.reduceBEq, Nat.reduceBNe, Nat.reduceAdd, Nat.reduceMul, Nat.reduceLT, Nat.reduceLeDiff, Nat.reduceSub, reduceCtorEq, Int.reduceToNat, ↓reduceIte]
  repeat'
    (first
     | (refine uYes ?_; first | exact List.mem_cons_self | (simp only [List.mem_cons, List.not_mem_nil, or_false, true_or, or_true]; done))
     | (refine uNo (by kernel_rfl))
     | (refine flatMk ?_; kernel_rfl)
     | (refine And.intro ?_ ?_)
     | (intro hx)
     | ((first
         | (refine callGF ?_)
         | (refine callQGF ?_)
         | (refine skipG ?_)
         | (refine callS (implLegOk_gives l _) ?_)
         | (refine callQ (implLegOk_gives l _) ?_)
         | (refine callG (fun hc => (implLegOk_gives l _)) ?_)
         | (refine callQG (fun hc => (implLegOk_gives l _)) ?_)
         | (refine callM (copyOfR l _) ?_)
         | (refine callS (dropR_none l _ (h.length + 2) n keep _ (ob_app h _ 6) (by simp) (legAt7 _ _ _ _ _) (hp.there_f ht)) ?_)
         | (refine callQ (dropR_none l _ (h.length + 2) n keep _ (ob_app h _ 6) (by simp) (legAt7 _ _ _ _ _) (hp.there_f ht)) ?_)
         | (refine callG (fun hc => (dropR_none l _ (h.length + 2) n keep _ (ob_app h _ 6) (by simp) (legAt7 _ _ _ _ _) (hp.there_f ht))) ?_)
         | (refine callQG (fun hc => (dropR_none l _ (h.length + 2) n keep _ (ob_app h _ 6) (by simp) (legAt7 _ _ _ _ _) (hp.there_f ht))) ?_)); simp -implicitDefEqProofs only [hb, Leg.dv, Leg.dvc, Leg.rows, push_cast, Nat.reduceEqDiff, Nat.reduceBEq, Nat.reduceBNe, Nat.reduceAdd, Nat.reduceMul, Nat.reduceLT, Nat.reduceLeDiff, Nat.reduceSub, reduceCtorEq, Int.reduceToNat, ↓reduceIte]))
  all_goals first
    | omega
    | rfl
    | exact ints_cl _ _ _ hx
    | exact holds_cl _ _ _ hx
    | trace_state
theorem dropR7 (l : Leg) (k : Nat) (n : Int) (keep : Bool) (h : Hp) (a b : Ob) (hn : heldIdx l n = k) (hk : k < l.holds.length) (hc : 0 ≤ (l.holds.getD k default).cls ∧ (l.holds.getD k default).cls < l.sold.length) (hh : l.holds.length ≤ 1073741824) :
    Meets Try.prog 128 [.ptr (h.length + 6) 0, .int .i64 n, .bool keep] (h ++ [a, b, .row (l.limits.map (.int .i64)), .row (l.sold.map (.int .i64)), .row (l.bids.map (.int .i64)), .row (l.holds.flatMap Hold.cs), .row (l.dvc (h.length + 2))]) fun d' h' => d' = .tup [] ∧
      h' = h ++ [a, b, .row (l.limits.map (.int .i64)), .row ((soldV l k keep).map (.int .i64)), .row (l.bids.map (.int .i64)), .row ((l.holds.eraseIdx k).flatMap Hold.cs ++ [.int .i64 0, .int .i64 0, .int .i64 0]), .row (splice (l.dvc (h.length + 2)) 9 [.vec (h.length + 8) true 3 0 (l.holds.length - 1) (l.holds.length - 1)]),
        .row (l.holds.getD k default).cs, .row ((l.holds.eraseIdx k).flatMap Hold.cs)] := by
  have := dropR_some l (h.length + 6) (h.length + 2) k n keep _ (ob_app h _ 6) (by simp) (legAt7 h a b (.row (l.dvc (h.length + 2))) l) (.inr (by omega)) hn hk hc hh
  have e : ∀ x y z : Ob, ∀ ls : Hp, ∀ w : List Ob, ((((if keep then (h ++ ls).set (h.length + 2 + 1) x else h ++ ls).set (h.length + 2 + 3) y).set (h.length + 6) z) ++ w) = h ++ (((if keep then ls.set 3 x else ls).set 5 y).set 6 z ++ w) := fun x y z ls w => by
    rw [show h.length + 2 + 1 = h.length + 3 from rfl, show h.length + 2 + 3 = h.length + 5 from rfl]
    cases keep <;> simp only [Bool.false_eq_true, if_false, if_true, set_app, List.append_assoc]
  rw [e, List.length_append] at this
  have e2 : ∀ a b c d e f g y z : Ob, ((((if keep then [a, b, c, d, e, f, g].set 3 (.row ((soldV l k keep).map (.int .i64))) else [a, b, c, .row (l.sold.map (.int .i64)), e, f, g]).set 5 y).set 6 z)) = [a, b, c, .row ((soldV l k keep).map (.int .i64)), e, y, z] := fun a b c d e f g y z => by
    cases keep <;> rfl
  rw [e2 a b _ (.row (l.sold.map (.int .i64)))] at this
  exact this
/-- a leg's cells with its slices in four given rows -/
def Leg.at4 (l : Leg) (a b c d k : Nat) : List D := [.str l.name, .str l.src, .str l.dst, .int .i64 l.dep, .int .i64 l.arr, .int .i64 l.cap, .vec a false 1 0 l.limits.length l.limits.length, .vec b false 1 0 l.sold.length l.sold.length, .vec c false 1 0 l.bids.length l.bids.length, .vec d true 3 0 k k]
theorem Leg.at4_ren (l : Leg) {n j a b c d a' b' c' d' k : Nat} (ha : ∀ ag sz len cp, Ren n j (.vec a' ag sz 0 len cp) (.vec a ag sz 0 len cp)) (hb : ∀ ag sz len cp, Ren n j (.vec b' ag sz 0 len cp) (.vec b ag sz 0 len cp)) (hc : ∀ ag sz len cp, Ren n j (.vec c' ag sz 0 len cp) (.vec c ag sz 0 len cp)) (hd : ∀ ag sz len cp, Ren n j (.vec d' ag sz 0 len cp) (.vec d ag sz 0 len cp)) :
    ∀ i (h1 : i < (l.at4 a' b' c' d' k).length) (h2 : i < (l.at4 a b c d k).length), Ren n j ((l.at4 a' b' c' d' k)[i]) ((l.at4 a b c d k)[i]) := by
  intro i h1 h2
  match i, h2 with
  | 0, _ => exact .str _
  | 1, _ => exact .str _
  | 2, _ => exact .str _
  | 3, _ => exact .int _ _
  | 4, _ => exact .int _ _
  | 5, _ => exact .int _ _
  | 6, _ => exact ha _ _ _ _
  | 7, _ => exact hb _ _ _ _
  | 8, _ => exact hc _ _ _ _
  | 9, _ => exact hd _ _ _ _
theorem holds_ren' (xs : List Hold) (n k : Nat) (a b c : Int) : RenOb n k (.row (xs.flatMap Hold.cs ++ [.int .i64 a, .int .i64 b, .int .i64 c])) (.row (xs.flatMap Hold.cs ++ [.int .i64 a, .int .i64 b, .int .i64 c])) := .row _ _ rfl (fun j h1 h2 => by
  have hm := List.getElem_mem h1
  rcases List.mem_append.1 hm with hm | hm
  · obtain ⟨x, _, hd⟩ := List.mem_flatMap.1 hm
    simp only [Hold.cs, List.mem_cons, List.not_mem_nil, or_false] at hd
    rcases hd with e | e | e <;> rw [e] <;> exact .int _ _
  · simp only [List.mem_cons, List.not_mem_nil, or_false] at hm
    rcases hm with e | e | e <;> rw [e] <;> exact .int _ _)
theorem hold_ren (x : Hold) (n k : Nat) : RenOb n k (.row x.cs) (.row x.cs) := .row _ _ rfl (fun j h1 h2 => by
  match j, h2 with
  | 0, _ => exact .int _ _
  | 1, _ => exact .int _ _
  | 2, _ => exact .int _ _)
theorem settled_some (l : Leg) (n : Int) (keep : Bool) (h : Hp) (hb : legB l = true) (ht : thereB l n = true) :
    Meets Try.prog 97 [l.d, .int .i64 n, .bool keep] h fun d' h' => d' = (settleL l n keep).dv h.length ∧ h' = h ++ (settleL l n keep).rows := by
  have hp := legP_of hb
  have hk := thereB_t ht
  have hho := hp.holds
  have hel : (l.holds.eraseIdx (placeN l n)).length = l.holds.length - 1 := by rw [List.length_eraseIdx, if_pos hk]
  have hsl : (soldV l (placeN l n) keep).length = l.sold.length := by
    rw [soldV]; split <;> simp
  have e : settleL l n keep = { l with sold := soldV l (placeN l n) keep, holds := l.holds.eraseIdx (placeN l n) } := by rw [settleL, ht]; rfl
  have er : (settleL l n keep).rows = [.row (l.limits.map (.int .i64)), .row ((soldV l (placeN l n) keep).map (.int .i64)), .row (l.bids.map (.int .i64)), .row ((l.holds.eraseIdx (placeN l n)).flatMap Hold.cs)] := by rw [e]; rfl
  have ed : ∀ r, (settleL l n keep).dv r = .agg (l.at4 r (r + 1) (r + 2) (r + 3) (l.holds.length - 1)) := fun r => by rw [e]; simp only [Leg.dv, Leg.dvc, Leg.at4, hsl, hel]
  rw [er, ed, show h ++ [.row (l.limits.map (.int .i64)), .row ((soldV l (placeN l n) keep).map (.int .i64)), .row (l.bids.map (.int .i64)), .row ((l.holds.eraseIdx (placeN l n)).flatMap Hold.cs)] = (h ++ [.row (l.limits.map (.int .i64)), .row ((soldV l (placeN l n) keep).map (.int .i64)), .row (l.bids.map (.int .i64))]) ++ [.row ((l.holds.eraseIdx (placeN l n)).flatMap Hold.cs)] by simp]
  refine Meets.compactAt (h := h) (hb := h ++ [.row (l.limits.map (.int .i64)), .row ((soldV l (placeN l n) keep).map (.int .i64)), .row (l.bids.map (.int .i64))])
    (junk := [.row ((l.holds.eraseIdx (placeN l n)).flatMap Hold.cs ++ [.int .i64 0, .int .i64 0, .int .i64 0]), .row (l.at4 h.length (h.length + 1) (h.length + 2) (h.length + 6) (l.holds.length - 1)), .row (l.holds.getD (placeN l n) default).cs])
    (rows1 := [.row ((l.holds.eraseIdx (placeN l n)).flatMap Hold.cs)]) (d1 := .agg (l.at4 h.length (h.length + 1) (h.length + 2) (h.length + 6) (l.holds.length - 1))) ?_ ?_ ?_ rfl ?_ ?_
  · simp
  · intro r x hx
    by_cases hr : r < h.length
    · rw [List.getElem?_append_left hr] at hx
      exact .inl hx
    · rw [List.getElem?_append_right (by omega)] at hx
      have := List.mem_of_getElem? hx
      simp only [List.mem_cons, List.not_mem_nil, or_false] at this
      rcases this with e | e | e <;> rw [e] <;> exact .inr (ints_cl _ _)
  · refine .agg _ _ rfl (l.at4_ren (fun _ _ _ _ => .old _ _ _ _ _ _ (by simp)) (fun _ _ _ _ => .old _ _ _ _ _ _ (by simp)) (fun _ _ _ _ => .old _ _ _ _ _ _ (by simp)) (fun _ _ _ _ => ?_))
    exact .vec (h.length + 3) _ _ _ _ _ (by simp)
  · intro j h1 h2
    match j, h2 with
    | 0, _ => exact holds_ren _ _ _
  rw [show (h ++ [.row (l.limits.map (.int .i64)), .row ((soldV l (placeN l n) keep).map (.int .i64)), .row (l.bids.map (.int .i64))]) ++ ([.row ((l.holds.eraseIdx (placeN l n)).flatMap Hold.cs ++ [.int .i64 0, .int .i64 0, .int .i64 0]), .row (l.at4 h.length (h.length + 1) (h.length + 2) (h.length + 6) (l.holds.length - 1)), .row (l.holds.getD (placeN l n) default).cs] ++ [.row ((l.holds.eraseIdx (placeN l n)).flatMap Hold.cs)]) =
    h ++ [.row (l.limits.map (.int .i64)), .row ((soldV l (placeN l n) keep).map (.int .i64)), .row (l.bids.map (.int .i64)), .row ((l.holds.eraseIdx (placeN l n)).flatMap Hold.cs ++ [.int .i64 0, .int .i64 0, .int .i64 0]), .row (l.at4 h.length (h.length + 1) (h.length + 2) (h.length + 6) (l.holds.length - 1)), .row (l.holds.getD (placeN l n) default).cs, .row ((l.holds.eraseIdx (placeN l n)).flatMap Hold.cs)] by simp]
  have hre : ∀ i (h1 : i < (l.at4 (h.length + 2) (h.length + 2 + 1) (h.length + 2 + 2) (h.length + 8) (l.holds.length - 1)).length) (h2 : i < (l.at4 h.length (h.length + 1) (h.length + 2) (h.length + 6) (l.holds.length - 1)).length), Ren h.length 2 ((l.at4 (h.length + 2) (h.length + 2 + 1) (h.length + 2 + 2) (h.length + 8) (l.holds.length - 1))[i]) ((l.at4 h.length (h.length + 1) (h.length + 2) (h.length + 6) (l.holds.length - 1))[i]) :=
    l.at4_ren (fun _ _ _ _ => .vec h.length _ _ _ _ _ (by omega)) (fun _ _ _ _ => .vec (h.length + 1) _ _ _ _ _ (by omega)) (fun _ _ _ _ => .vec (h.length + 2) _ _ _ _ _ (by omega)) (fun _ _ _ _ => .vec (h.length + 6) _ _ _ _ _ (by omega))
  refine Meets.compact (hb := h) (junk := [.row l.cs, .row (l.at4 (h.length + 2) (h.length + 2 + 1) (h.length + 2 + 2) (h.length + 8) (l.holds.length - 1))])
    (rows1 := [.row (l.limits.map (.int .i64)), .row ((soldV l (placeN l n) keep).map (.int .i64)), .row (l.bids.map (.int .i64)), .row ((l.holds.eraseIdx (placeN l n)).flatMap Hold.cs ++ [.int .i64 0, .int .i64 0, .int .i64 0]), .row (l.at4 (h.length + 2) (h.length + 2 + 1) (h.length + 2 + 2) (h.length + 8) (l.holds.length - 1)), .row (l.holds.getD (placeN l n) default).cs, .row ((l.holds.eraseIdx (placeN l n)).flatMap Hold.cs)])
    (d1 := .agg (l.at4 (h.length + 2) (h.length + 2 + 1) (h.length + 2 + 2) (h.length + 8) (l.holds.length - 1))) rfl (old_ob h) (.agg _ _ rfl hre) rfl ?_ ?_
  · intro j h1 h2
    match j, h2 with
    | 0, _ => exact ints_ren _ _ _
    | 1, _ => exact ints_ren _ _ _
    | 2, _ => exact ints_ren _ _ _
    | 3, _ => exact holds_ren' _ _ _ _ _ _
    | 4, _ => exact .row _ _ rfl hre
    | 5, _ => exact hold_ren _ _ _
    | 6, _ => exact holds_ren _ _ _
  refine meets_of [] mixed Try.func97 rfl (by kernel_rfl) (by kernel_rfl) (by rw [Try.ntmps97]; simp only [List.length_cons, List.length_nil]; omega) (fun hf => ?_)
  rw [Try.results97]
  clear hf
  try simp -implicitDefEqProofs only [hb, Leg.dv, Leg.dvc, Leg.rows, Leg.at4, push_cast, Nat.reduceEqDiff, Nat.reduceBEq, Nat.reduceBNe, Nat.reduceAdd, Nat.reduceMul, Nat.reduceLT, Nat.reduceLeDiff, Nat.reduceSub, reduceCtorEq, Int.reduceToNat, ↓reduceIte]
  repeat'
    (first
     | (refine uYes ?_; first | exact List.mem_cons_self | (simp only [List.mem_cons, List.not_mem_nil, or_false, true_or, or_true]; done))
     | (refine uNo (by kernel_rfl))
     | (refine flatMk ?_; kernel_rfl)
     | (refine And.intro ?_ ?_)
     | (intro hx)
     | ((first
         | (refine callGF ?_)
         | (refine callQGF ?_)
         | (refine skipG ?_)
         | (refine callS (implLegOk_gives l _) ?_)
         | (refine callQ (implLegOk_gives l _) ?_)
         | (refine callG (fun hc => (implLegOk_gives l _)) ?_)
         | (refine callQG (fun hc => (implLegOk_gives l _)) ?_)
         | (refine callM (copyOfR l _) ?_)
         | (refine callM (dropR7 l (placeN l n) n keep h _ _ (hp.there_t ht) hk (hp.cls hk) (by omega)) ?_)); simp -implicitDefEqProofs only [hb, Leg.dv, Leg.dvc, Leg.rows, Leg.at4, push_cast, Nat.reduceEqDiff, Nat.reduceBEq, Nat.reduceBNe, Nat.reduceAdd, Nat.reduceMul, Nat.reduceLT, Nat.reduceLeDiff, Nat.reduceSub, reduceCtorEq, Int.reduceToNat, ↓reduceIte]))
  all_goals first
    | omega
    | rfl
    | exact ints_cl _ _ _ hx
    | exact holds_cl _ _ _ hx
    | exact cl_holds' _ _ _ _ _ _ hx
    | trace_state
end Go.Proofs.Ytmehbbepppjikaa
