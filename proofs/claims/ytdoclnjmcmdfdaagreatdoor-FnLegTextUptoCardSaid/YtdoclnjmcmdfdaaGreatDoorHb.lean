/- What FnLegText draws; what is written of a leg is read again. -/
import Derived.Test.YtdoclnjmcmdfdaaGreatDoorGz
import Derived.Test.YtdoclnjmcmdfdaaGreatDoorGy
import Derived.Test.YtdoclnjmcmdfdaaGreatDoorGi
import Derived.Test.YtdoclnjmcmdfdaaGreatDoorGl

namespace Go.Proofs.YtdoclnjmcmdfdaaGreatDoor
set_option linter.unusedSectionVars false
open Go.Av
variable [Av.Start] [TabPow] [TabErr] [TabMax]
set_option maxRecDepth 10000
set_option maxHeartbeats 1000000
set_option linter.unusedSimpArgs false
set_option linter.unusedVariables false
attribute [local irreducible] finS

theorem sumF_nn (f : Hold → Int) (hf : ∀ o, 0 ≤ f o) : ∀ xs : List Hold, 0 ≤ (xs.map f).sum
  | [] => Int.le_refl _
  | x :: xs => by
    have h1 := hf x
    have h2 := sumF_nn f hf xs
    simp only [List.map_cons, List.sum_cons]
    omega
def Leg.bare (l : Leg) : Leg := { l with holds := [] }
theorem bare_ok {l : Leg} (h : LegP l) : LegP l.bare := by
  refine turn_ok h rfl rfl rfl rfl rfl rfl rfl rfl h.sold h.sol (by simp [Leg.bare]) (fun o ho => by cases ho) (fun i hi => by simp [Leg.bare] at hi) (fun i hi => ?_) (fun i hi => ?_)
  · have h1 := h.used' i hi
    have h2 := sumF_nn (upS i) (upS_nn i) l.holds
    rw [usedI_def] at h1 ⊢
    simp only [Leg.bare, List.map_nil, List.sum_nil] at h1 ⊢
    omega
  · rw [backI_def]
    simp only [Leg.bare, List.map_nil, List.sum_nil]
    have hl := h.sold
    rw [List.getD_eq_getElem?_getD, List.getElem?_eq_getElem (by omega)]
    exact (h.sol _ (List.getElem_mem _)).1
theorem bare_legB {l : Leg} (h : legB l = true) : legB l.bare = true := (bare_ok (legP_of h)).mk_leg
theorem mem_join {b c : UInt8} : ∀ {ws : List (List UInt8)}, b ∈ joinC c ws → b = c ∨ ∃ w, w ∈ ws ∧ b ∈ w
  | [], h => by cases h
  | [w], h => .inr ⟨w, by simp, by simpa [joinC] using h⟩
  | w :: v :: ws, h => by
    rw [joinC_cons c w (by simp), List.mem_append, List.mem_cons] at h
    rcases h with h | h | h
    · exact .inr ⟨w, by simp, h⟩
    · exact .inl h
    · rcases mem_join h with h | ⟨x, hx, h⟩
      · exact .inl h
      · exact .inr ⟨x, List.mem_cons_of_mem _ hx, h⟩
theorem itoa_no32 (n : Int) : (32 : UInt8) ∉ Lib.itoa n := fun hm => by
  rcases itoa_mem hm with h1 | h1
  · exact absurd h1 (by decide)
  · exact absurd h1 (by decide)
theorem name_no32 {s : List UInt8} (hn : nameB s = true) : (32 : UInt8) ∉ s := fun hm => by
  rw [nameB, Bool.and_eq_true, allB_iff] at hn
  obtain ⟨i, hi, e⟩ := List.getElem_of_mem hm
  have := inB_iff.1 (hn.1 i hi)
  rw [List.getD_eq_getElem?_getD, List.getElem?_eq_getElem hi] at this
  simp only [Option.getD_some, e] at this
  exact absurd this (by decide)
theorem nums_no32 (xs : List Int) : (32 : UInt8) ∉ numsT xs := fun hm => by
  rcases mem_join hm with h | ⟨w, hw, h⟩
  · exact absurd h (by decide)
  · obtain ⟨x, _, rfl⟩ := List.mem_map.1 hw
    exact itoa_no32 x h
theorem nums_split {xs : List Int} (h : xs ≠ []) : splitC 44 (numsT xs) = xs.map Lib.itoa :=
  split_join 44 _ (fun e => h (List.map_eq_nil_iff.1 e)) fun w hw => by
    obtain ⟨x, _, rfl⟩ := List.mem_map.1 hw
    exact itoa_no (.inl rfl)
theorem nums_back {xs : List Int} (h : xs ≠ []) (hb : ∀ x, x ∈ xs → inI x) : numsOk (numsT xs) = true ∧ numsI (numsT xs) = xs := by
  have hx : ∀ x, x ∈ xs → numV (Lib.itoa x) = (x, true) := fun x hx => numV_itoa (hb x hx).1 (hb x hx).2
  rw [numsOk, numsI, nums_split h, List.all_map, List.map_map]
  exact ⟨List.all_eq_true.2 fun x hm => by rw [Function.comp_apply, hx x hm], (List.map_congr_left fun x hm => by rw [Function.comp_apply, hx x hm]; rfl).trans (List.map_id _)⟩
theorem legT_split {l : Leg} (h : LegP l) : splitC 32 (legT l) = [l.name, l.src, l.dst, Lib.itoa l.dep, Lib.itoa l.arr, numsT l.limits, numsT l.sold, numsT l.bids] :=
  split_join 32 _ (by simp) fun w hw => by
    simp only [List.mem_cons, List.not_mem_nil, or_false] at hw
    rcases hw with rfl | rfl | rfl | rfl | rfl | rfl | rfl | rfl
    · exact name_no32 h.name
    · exact name_no32 h.src
    · exact name_no32 h.dst
    · exact itoa_no32 _
    · exact itoa_no32 _
    · exact nums_no32 _
    · exact nums_no32 _
    · exact nums_no32 _
/-- what is written of a leg is read as the leg without its holds -/
theorem legVI_write {l : Leg} (hb : legB l = true) : legVI (legT l) = (l.bare, true) := by
  have hp := legP_of hb
  have hs := Leg.small hb
  have n1 := numV_itoa (n := l.dep) hs.dep.1 hs.dep.2
  have n2 := numV_itoa (n := l.arr) hs.arr.1 hs.arr.2
  have hl := hp.limits
  have hso := hp.sold
  have hbi := hp.bids
  obtain ⟨a1, b1⟩ := nums_back (xs := l.limits) (fun e => by rw [e] at hl; cases hl) hs.limits.1
  obtain ⟨a2, b2⟩ := nums_back (xs := l.sold) (fun e => by rw [e] at hso; cases hso) hs.sold.1
  obtain ⟨a3, b3⟩ := nums_back (xs := l.bids) (fun e => by rw [e] at hbi; exact absurd hbi.1 (by decide)) hs.bids.1
  have hR : legRI (splitC 32 (legT l)) = l.bare := by
    rw [legT_split hp]
    simp only [legRI, List.getD_cons_zero, List.getD_cons_succ, n1, n2, b1, b2, b3, hp.lim0]
    rfl
  have hN : legNums (splitC 32 (legT l)) = true := by
    rw [legT_split hp]
    simp only [legNums, List.getD_cons_zero, List.getD_cons_succ, n1, n2, a1, a2, a3]
    rfl
  rw [legVI, if_pos ⟨by rw [legT_split hp]; rfl, hN⟩, hR, legOut, if_pos]
  rw [if_pos (bare_legB hb)]
  rfl
theorem legVI_true {s : List UInt8} {l : Leg} (h : legVI s = (l, true)) : (if legB l = true then legT l else []) = s := by
  rw [legVI] at h
  split at h
  · rw [legOut] at h
    by_cases htx : (if legB (legRI (splitC 32 s)) = true then legT (legRI (splitC 32 s)) else []) = s
    · rw [if_pos htx] at h
      cases h
      exact htx
    · rw [if_neg htx] at h
      cases h
  · cases h
theorem legT_len {l : Leg} (hb : legB l = true) : (legT l).length ≤ 10000 := by
  have hs := Leg.small hb
  have h1 := Lib.itoa_length_le _ hs.dep.1 hs.dep.2
  have h2 := Lib.itoa_length_le _ hs.arr.1 hs.arr.2
  have h3 := numsT_len _ hs.limits.1
  have h4 := numsT_len _ hs.sold.1
  have h5 := numsT_len _ hs.bids.1
  have h6 := hs.limits.2
  have h7 := hs.sold.2
  have h8 := hs.bids.2
  have h9 := hs.name
  have h10 := hs.src
  have h11 := hs.dst
  simp only [legT, joinC, List.length_append, List.length_cons, List.length_nil]
  omega
theorem bendV_len (bs : List Int) (p : Int) (s : List UInt8) (ss : List (List UInt8)) (n : Int) (hss : ∀ x, x ∈ ss → x.length ≤ 100) : (bendV bs p s ss n).1.length ≤ s.length + 100 := by
  have hg : ∀ k, (ss.getD k []).length ≤ 100 := fun k => by
    rw [List.getD_eq_getElem?_getD]
    cases e : ss[k]? with
    | none => simp
    | some x => exact hss x (List.mem_of_getElem? e)
  rw [bendV]
  split
  · simp only; omega
  · have := hg (pickV bs (p + 1 + 1) ss.length).toNat
    simp only [List.length_append, List.length_take, List.length_drop]
    omega
def legTx (l : Leg) : List UInt8 := if legB l = true then legT l else []
theorem legTx_len (l : Leg) : (legTx l).length ≤ 10000 := by
  rw [legTx]
  split
  · rename_i h; exact legT_len h
  · simp
def bendL : List (List UInt8) := [[32], [44], [48], [49], [120]]
def readD (bs : List Int) : List UInt8 := (bendV (bs.take 2000) (soldS (bs.take 2000) 0).2 (legTx (soldS (bs.take 2000) 0).1) bendL 3).1
theorem readD_len (bs : List Int) : (readD bs).length ≤ 11000 := by
  have h1 := bendV_len (bs.take 2000) (soldS (bs.take 2000) 0).2 (legTx (soldS (bs.take 2000) 0).1) bendL 3 (by simp [bendL])
  have h2 := legTx_len (soldS (bs.take 2000) 0).1
  rw [readD]
  omega
theorem drawLegRead_gives (bs : List Int) (h : Hp) (hb : ∀ x, x ∈ bs → 0 ≤ x ∧ x ≤ 255) : Gives Tryz.prog 14 [.slice (bs.map (.int .u8)) .no] h (.str (readD bs)) := by
  have hR := fun p h0 h1 => rd_take hb p h0 h1
  have hG := fun (r : Nat) g q1 q2 => l14Sold_gives (bs.take 2000) 0 r g q1 q2 (hR _ (by omega) (by omega)) (by omega)
  have hA := soldS_ok (bs := bs.take 2000) (p := 0) (hR _ (by omega) (by omega)) (by omega)
  have hO := l1Open_gives bs
  rw [readD]
  generalize bs.take 2000 = cs at hR hG hO hA
  generalize soldS cs 0 = s at hG hA
  obtain ⟨l, u⟩ := s
  simp only at hG hA ⊢
  have hW := specLegWrite_gives l
  have hlen := legTx_len l
  rw [← legTx] at hW
  generalize legTx l = tx at hW hlen
  have hB := fun (r : Nat) g q1 q2 => l14Bend_gives cs u tx bendL .full 3 r g q1 q2 (hR _ (by omega) (by omega)) (by omega) (by omega) (by omega) (by simp [bendL])
  generalize bendV cs u tx bendL 3 = B at hB
  refine meets_of [] mixed Tryz.func14 rfl (by kernel_rfl) (by kernel_rfl) (by rw [Tryz.ntmps14]; simp only [List.length_cons, List.length_nil]; omega) (fun hf => ?_)
  rw [Tryz.results14]
  clear hf
  try simp -implicitDefEqProofs only [lenMax, push_cast, Nat.reduceEqDiff, Nat.reduceBEq, Nat.reduceBNe, Nat.reduceAdd, Nat.reduceMul, Nat.reduceLT, Nat.reduceLeDiff, Nat.reduceSub, reduceCtorEq, Int.reduceToNat, ↓reduceIte]
  repeat'
    (first
     | (refine uYes ?_; first | exact List.mem_cons_self | (simp only [List.mem_cons, List.not_mem_nil, or_false, true_or, or_true]; done))
     | (refine uNo (by kernel_rfl))
     | (refine flatMk ?_; kernel_rfl)
     | (refine And.intro ?_ ?_)
     | (intro hx)
     | ((first
         | (refine callGF ?_)
         | (refine callQGF ?_)
         | (refine skipG ?_)
         | (refine callM (hO _) ?_)
         | (refine callM (hG _ _ (ob_app h _ 0) (by simp)) ?_)
         | (refine callS (hW _) ?_)
         | (refine callQ (hW _) ?_)
         | (refine callG (fun hc => (hW _)) ?_)
         | (refine callQG (fun hc => (hW _)) ?_)
         | (refine callM (hB _ _ (ob_app h _ 0) (by simp)) ?_)); simp -implicitDefEqProofs only [lenMax, push_cast, Nat.reduceEqDiff, Nat.reduceBEq, Nat.reduceBNe, Nat.reduceAdd, Nat.reduceMul, Nat.reduceLT, Nat.reduceLeDiff, Nat.reduceSub, reduceCtorEq, Int.reduceToNat, ↓reduceIte]))
  all_goals first
    | omega
    | trace_state
def okD (bs : List Int) : Leg := if pickV (bs.take 2000) (soldS (bs.take 2000) 0).2 2 = 0 then (spoilS (bs.take 2000) ((soldS (bs.take 2000) 0).2 + 1) (soldS (bs.take 2000) 0).1).1 else (soldS (bs.take 2000) 0).1
theorem drawLegOk_gives (bs : List Int) (h : Hp) (hb : ∀ x, x ∈ bs → 0 ≤ x ∧ x ≤ 255) : Gives Tryz.prog 46 [.slice (bs.map (.int .u8)) .no] h (okD bs).d := by
  have hR := fun p h0 h1 => rd_take hb p h0 h1
  have hG := fun (r : Nat) g q1 q2 => l14Sold_gives (bs.take 2000) 0 r g q1 q2 (hR _ (by omega) (by omega)) (by omega)
  have hA := soldS_ok (bs := bs.take 2000) (p := 0) (hR _ (by omega) (by omega)) (by omega)
  have hO := l1Open_gives bs
  rw [okD]
  generalize bs.take 2000 = cs at hR hG hO hA
  generalize soldS cs 0 = s at hG hA
  obtain ⟨l, u⟩ := s
  simp only at hG hA ⊢
  obtain ⟨a1, a2, a3⟩ := hA
  have vq := pickV_range (p := u) (hR _ (by omega) (by omega)) 2 (by omega)
  by_cases hz : pickV cs u 2 = 0
  · simp only [hz, if_true]
    have hP := fun (r : Nat) g q1 q2 => l14SpoilLeg_gives cs (u + 1) l r g q1 q2 (hR _ (by omega) (by omega)) (by omega) a1
    generalize spoilS cs (u + 1) l = t at hP
    obtain ⟨l', q'⟩ := t
    simp only at hP ⊢
    refine meets_of [] mixed Tryz.func46 rfl (by kernel_rfl) (by kernel_rfl) (by rw [Tryz.ntmps46]; simp only [List.length_cons, List.length_nil]; omega) (fun hf => ?_)
    rw [Tryz.results46]
    clear hf
    try simp -implicitDefEqProofs only [hz, lenMax, List.length_set, push_cast, Nat.reduceEqDiff, Nat.reduceBEq, Nat.reduceBNe, Nat.reduceAdd, Nat.reduceMul, Nat.reduceLT, Nat.reduceLeDiff, Nat.reduceSub, reduceCtorEq, Int.reduceToNat, ↓reduceIte]
    repeat'
      (first
       | (refine uYes ?_; first | exact List.mem_cons_self | (simp only [List.mem_cons, List.not_mem_nil, or_false, true_or, or_true]; done))
       | (refine uNo (by kernel_rfl))
       | (refine flatMk ?_; kernel_rfl)
       | (refine And.intro ?_ ?_)
       | (intro hx)
       | ((first
           | (refine callGF ?_)
           | (refine callQGF ?_)
           | (refine skipG ?_)
           | (refine callM (hO _) ?_)
           | (refine callM (hG _ _ (ob_app h _ 1) (by simp)) ?_)
           | (refine callM (pick_gives cs u _ _ _ (ob_app h _ 1) (by simp) (hR _ (by omega) (by omega))) ?_)
           | (refine callM (hP _ _ (ob_app h _ 1) (by simp)) ?_)); simp -implicitDefEqProofs only [hz, lenMax, List.length_set, push_cast, Nat.reduceEqDiff, Nat.reduceBEq, Nat.reduceBNe, Nat.reduceAdd, Nat.reduceMul, Nat.reduceLT, Nat.reduceLeDiff, Nat.reduceSub, reduceCtorEq, Int.reduceToNat, ↓reduceIte]))
    all_goals first
      | omega
      | trace_state
  · have hz' : decide (pickV cs u 2 = 0) = false := decide_eq_false hz
    simp only [hz, if_false]
    refine meets_of [] mixed Tryz.func46 rfl (by kernel_rfl) (by kernel_rfl) (by rw [Tryz.ntmps46]; simp only [List.length_cons, List.length_nil]; omega) (fun hf => ?_)
    rw [Tryz.results46]
    clear hf
    try simp -implicitDefEqProofs only [hz', lenMax, List.length_set, push_cast, Nat.reduceEqDiff, Nat.reduceBEq, Nat.reduceBNe, Nat.reduceAdd, Nat.reduceMul, Nat.reduceLT, Nat.reduceLeDiff, Nat.reduceSub, reduceCtorEq, Int.reduceToNat, ↓reduceIte]
    repeat'
      (first
       | (refine uYes ?_; first | exact List.mem_cons_self | (simp only [List.mem_cons, List.not_mem_nil, or_false, true_or, or_true]; done))
       | (refine uNo (by kernel_rfl))
       | (refine flatMk ?_; kernel_rfl)
       | (refine And.intro ?_ ?_)
       | (intro hx)
       | ((first
           | (refine callGF ?_)
           | (refine callQGF ?_)
           | (refine skipG ?_)
           | (refine callM (hO _) ?_)
           | (refine callM (hG _ _ (ob_app h _ 1) (by simp)) ?_)
           | (refine callM (pick_gives cs u _ _ _ (ob_app h _ 1) (by simp) (hR _ (by omega) (by omega))) ?_)); simp -implicitDefEqProofs only [hz', lenMax, List.length_set, push_cast, Nat.reduceEqDiff, Nat.reduceBEq, Nat.reduceBNe, Nat.reduceAdd, Nat.reduceMul, Nat.reduceLT, Nat.reduceLeDiff, Nat.reduceSub, reduceCtorEq, Int.reduceToNat, ↓reduceIte]))
    all_goals first
      | omega
      | trace_state
theorem drawLegWrite_gives (bs : List Int) (h : Hp) (hb : ∀ x, x ∈ bs → 0 ≤ x ∧ x ≤ 255) : Gives Tryz.prog 19 [.slice (bs.map (.int .u8)) .no] h (okD bs).d := by
  refine meets_of [] mixed Tryz.func19 rfl (by kernel_rfl) (by kernel_rfl) (by rw [Tryz.ntmps19]; simp only [List.length_cons, List.length_nil]; omega) (fun hf => ?_)
  rw [Tryz.results19]
  clear hf
  try simp -implicitDefEqProofs only [lenMax, push_cast, Nat.reduceEqDiff, Nat.reduceBEq, Nat.reduceBNe, Nat.reduceAdd, Nat.reduceMul, Nat.reduceLT, Nat.reduceLeDiff, Nat.reduceSub, reduceCtorEq, Int.reduceToNat, ↓reduceIte]
  repeat'
    (first
     | (refine uYes ?_; first | exact List.mem_cons_self | (simp only [List.mem_cons, List.not_mem_nil, or_false, true_or, or_true]; done))
     | (refine uNo (by kernel_rfl))
     | (refine flatMk ?_; kernel_rfl)
     | (refine And.intro ?_ ?_)
     | (intro hx)
     | ((first
         | (refine callGF ?_)
         | (refine callQGF ?_)
         | (refine skipG ?_)
         | (refine callS (drawLegOk_gives bs _ hb) ?_)
         | (refine callQ (drawLegOk_gives bs _ hb) ?_)
         | (refine callG (fun hc => (drawLegOk_gives bs _ hb)) ?_)
         | (refine callQG (fun hc => (drawLegOk_gives bs _ hb)) ?_)); simp -implicitDefEqProofs only [lenMax, push_cast, Nat.reduceEqDiff, Nat.reduceBEq, Nat.reduceBNe, Nat.reduceAdd, Nat.reduceMul, Nat.reduceLT, Nat.reduceLeDiff, Nat.reduceSub, reduceCtorEq, Int.reduceToNat, ↓reduceIte]))
  all_goals first
    | omega
    | trace_state
end Go.Proofs.YtdoclnjmcmdfdaaGreatDoor

/- FnLegText holds of all drawn legs and texts. -/
namespace Go.Proofs.YtdoclnjmcmdfdaaGreatDoor
set_option linter.unusedSectionVars false
open Go.Av
variable [Av.Start] [TabPow] [TabErr] [TabMax]
set_option maxRecDepth 10000
set_option maxHeartbeats 1000000
set_option linter.unusedSimpArgs false
set_option linter.unusedVariables false
attribute [local irreducible] finS

theorem legVI_or' (s : List UInt8) : (∃ l, legVI s = (l, true)) ∨ legVI s = (default, false) := by
  rw [legVI]
  split
  · rw [legOut]
    by_cases htx : (if legB (legRI (splitC 32 s)) = true then legT (legRI (splitC 32 s)) else []) = s
    · rw [if_pos htx]
      exact .inl ⟨_, rfl⟩
    · rw [if_neg htx]
      exact .inr rfl
  · exact .inr rfl
theorem fnLegText_gives (bs ms : List Int) (h : Hp) (hb : ∀ x, x ∈ bs → 0 ≤ x ∧ x ≤ 255) (hm : ∀ x, x ∈ ms → 0 ≤ x ∧ x ≤ 255) : Gives Tryz.prog 4 [.slice (bs.map (.int .u8)) .no, .slice (ms.map (.int .u8)) .no] h (.bool true) := by
  have hD := fun g => drawLegRead_gives bs g hb
  have hl := readD_len bs
  generalize readD bs = tx at hD hl
  have hI := fun g => implLegRead_gives tx g (by omega)
  have hS := fun g => specLegRead_gives tx g (by omega)
  rw [← legRd_eq] at hS
  have hE := fun g => drawLegWrite_gives ms g hm
  generalize okD ms = d at hE
  have hWd := implLegWrite_gives d
  have hW0 := fun g => gives_wk' (ys := [.agg (d.cs9 ++ [.slice [] .full])]) (specLegWrite_gives d.bare g) ⟨Leg.wk0 (l := d.bare) rfl, trivial⟩
  have hK0 := fun g => gives_wk' (ys := [.agg (d.cs9 ++ [.slice [] .full])]) (implLegOk_gives d.bare g) ⟨Leg.wk0 (l := d.bare) rfl, trivial⟩
  have hJ0 := fun g => gives_wk' (ys := [.agg (d.cs9 ++ [.slice [] .full])]) (specLegOk_gives d.bare g) ⟨Leg.wk0 (l := d.bare) rfl, trivial⟩
  have hQ0 := fun g => gives_wk' (ys := [d.bare.d, .agg (d.cs9 ++ [.slice [] .full])]) (wsLeg_gives d.bare g) ⟨.refl _, Leg.wk0 (l := d.bare) rfl, trivial⟩
  have hlen2 := legTx_len d
  rw [legTx] at hlen2
  have hR0 := fun g => implLegRead_gives (if legB d = true then legT d else []) g (by omega)
  have hbare : legT d.bare = legT d := rfl
  rcases legVI_or' tx with ⟨l, hv⟩ | hv
  · have htx := legVI_true hv
    have hWl := implLegWrite_gives l
    rw [htx] at hWl
    rw [hv] at hI hS
    cases hb' : legB d with
    | true =>
      rw [hb', if_pos rfl] at hWd hR0
      rw [bare_legB hb', if_pos rfl, hbare] at hW0
      rw [legVI_write hb'] at hR0
      have hne : decide (legT d = []) = false := decide_eq_false fun e => by
        have := legT_split (legP_of hb')
        rw [e] at this
        have := congrArg List.length this
        simp [splitC] at this
      generalize legT d = td at hWd hR0 hW0 hne
      refine meets_of [] mixed Tryz.func4 rfl (by kernel_rfl) (by kernel_rfl) (by rw [Tryz.ntmps4]; simp only [List.length_cons, List.length_nil]; omega) (fun hf => ?_)
      rw [Tryz.results4]
      clear hf
      try simp -implicitDefEqProofs only [hne, lenMax, bne_self_eq_false, push_cast, Nat.reduceEqDiff, Nat.reduceBEq, Nat.reduceBNe, Nat.reduceAdd, Nat.reduceMul, Nat.reduceLT, Nat.reduceLeDiff, Nat.reduceSub, reduceCtorEq, Int.reduceToNat, ↓reduceIte]
      repeat'
        (first
         | (refine uYes ?_; first | exact List.mem_cons_self | (simp only [List.mem_cons, List.not_mem_nil, or_false, true_or, or_true]; done))
         | (refine uNo (by kernel_rfl))
         | (refine flatMk ?_; kernel_rfl)
         | (refine And.intro ?_ ?_)
         | (intro hx)
         | ((first
             | (refine callGF ?_)
             | (refine callQGF ?_)
             | (refine skipG ?_)
             | (refine callS (hD _) ?_)
             | (refine callQ (hD _) ?_)
             | (refine callG (fun hc => (hD _)) ?_)
             | (refine callQG (fun hc => (hD _)) ?_)
             | (refine callS (hI _) ?_)
             | (refine callQ (hI _) ?_)
             | (refine callG (fun hc => (hI _)) ?_)
             | (refine callQG (fun hc => (hI _)) ?_)
             | (refine callS (hS _) ?_)
             | (refine callQ (hS _) ?_)
             | (refine callG (fun hc => (hS _)) ?_)
             | (refine callQG (fun hc => (hS _)) ?_)
             | (refine callS (wsLeg_gives l _) ?_)
             | (refine callQ (wsLeg_gives l _) ?_)
             | (refine callG (fun hc => (wsLeg_gives l _)) ?_)
             | (refine callQG (fun hc => (wsLeg_gives l _)) ?_)
             | (refine callS (hWl _) ?_)
             | (refine callQ (hWl _) ?_)
             | (refine callG (fun hc => (hWl _)) ?_)
             | (refine callQG (fun hc => (hWl _)) ?_)
             | (refine callS (hE _) ?_)
             | (refine callQ (hE _) ?_)
             | (refine callG (fun hc => (hE _)) ?_)
             | (refine callQG (fun hc => (hE _)) ?_)
             | (refine callS (hWd _) ?_)
             | (refine callQ (hWd _) ?_)
             | (refine callG (fun hc => (hWd _)) ?_)
             | (refine callQG (fun hc => (hWd _)) ?_)
             | (refine callS (hR0 _) ?_)
             | (refine callQ (hR0 _) ?_)
             | (refine callG (fun hc => (hR0 _)) ?_)
             | (refine callQG (fun hc => (hR0 _)) ?_)
             | (refine callS (hW0 _) ?_)
             | (refine callQ (hW0 _) ?_)
             | (refine callG (fun hc => (hW0 _)) ?_)
             | (refine callQG (fun hc => (hW0 _)) ?_)
             | (refine callS (hQ0 _) ?_)
             | (refine callQ (hQ0 _) ?_)
             | (refine callG (fun hc => (hQ0 _)) ?_)
             | (refine callQG (fun hc => (hQ0 _)) ?_)
             | (refine callS (hK0 _) ?_)
             | (refine callQ (hK0 _) ?_)
             | (refine callG (fun hc => (hK0 _)) ?_)
             | (refine callQG (fun hc => (hK0 _)) ?_)
             | (refine callS (hJ0 _) ?_)
             | (refine callQ (hJ0 _) ?_)
             | (refine callG (fun hc => (hJ0 _)) ?_)
             | (refine callQG (fun hc => (hJ0 _)) ?_)); simp -implicitDefEqProofs only [hne, lenMax, bne_self_eq_false, push_cast, Nat.reduceEqDiff, Nat.reduceBEq, Nat.reduceBNe, Nat.reduceAdd, Nat.reduceMul, Nat.reduceLT, Nat.reduceLeDiff, Nat.reduceSub, reduceCtorEq, Int.reduceToNat, ↓reduceIte]))
      all_goals first
        | omega
        | (right; rw [legB_spec]; exact beq_self_eq_true _)
        | trace_state
    | false =>
      rw [hb', if_neg (by decide)] at hWd hR0
      have hr0 : legVI [] = (default, false) := rfl
      rw [hr0] at hR0
      generalize (if legB d.bare = true then legT d.bare else []) = td at hW0
      refine meets_of [] mixed Tryz.func4 rfl (by kernel_rfl) (by kernel_rfl) (by rw [Tryz.ntmps4]; simp only [List.length_cons, List.length_nil]; omega) (fun hf => ?_)
      rw [Tryz.results4]
      clear hf
      try simp -implicitDefEqProofs only [lenMax, bne_self_eq_false, push_cast, Nat.reduceEqDiff, Nat.reduceBEq, Nat.reduceBNe, Nat.reduceAdd, Nat.reduceMul, Nat.reduceLT, Nat.reduceLeDiff, Nat.reduceSub, reduceCtorEq, Int.reduceToNat, ↓reduceIte]
      repeat'
        (first
         | (refine uYes ?_; first | exact List.mem_cons_self | (simp only [List.mem_cons, List.not_mem_nil, or_false, true_or, or_true]; done))
         | (refine uNo (by kernel_rfl))
         | (refine flatMk ?_; kernel_rfl)
         | (refine And.intro ?_ ?_)
         | (intro hx)
         | ((first
             | (refine callGF ?_)
             | (refine callQGF ?_)
             | (refine skipG ?_)
             | (refine callS (hD _) ?_)
             | (refine callQ (hD _) ?_)
             | (refine callG (fun hc => (hD _)) ?_)
             | (refine callQG (fun hc => (hD _)) ?_)
             | (refine callS (hI _) ?_)
             | (refine callQ (hI _) ?_)
             | (refine callG (fun hc => (hI _)) ?_)
             | (refine callQG (fun hc => (hI _)) ?_)
             | (refine callS (hS _) ?_)
             | (refine callQ (hS _) ?_)
             | (refine callG (fun hc => (hS _)) ?_)
             | (refine callQG (fun hc => (hS _)) ?_)
             | (refine callS (wsLeg_gives l _) ?_)
             | (refine callQ (wsLeg_gives l _) ?_)
             | (refine callG (fun hc => (wsLeg_gives l _)) ?_)
             | (refine callQG (fun hc => (wsLeg_gives l _)) ?_)
             | (refine callS (hWl _) ?_)
             | (refine callQ (hWl _) ?_)
             | (refine callG (fun hc => (hWl _)) ?_)
             | (refine callQG (fun hc => (hWl _)) ?_)
             | (refine callS (hE _) ?_)
             | (refine callQ (hE _) ?_)
             | (refine callG (fun hc => (hE _)) ?_)
             | (refine callQG (fun hc => (hE _)) ?_)
             | (refine callS (hWd _) ?_)
             | (refine callQ (hWd _) ?_)
             | (refine callG (fun hc => (hWd _)) ?_)
             | (refine callQG (fun hc => (hWd _)) ?_)
             | (refine callS (hR0 _) ?_)
             | (refine callQ (hR0 _) ?_)
             | (refine callG (fun hc => (hR0 _)) ?_)
             | (refine callQG (fun hc => (hR0 _)) ?_)
             | (refine callS (hW0 _) ?_)
             | (refine callQ (hW0 _) ?_)
             | (refine callG (fun hc => (hW0 _)) ?_)
             | (refine callQG (fun hc => (hW0 _)) ?_)
             | (refine callS (hQ0 _) ?_)
             | (refine callQ (hQ0 _) ?_)
             | (refine callG (fun hc => (hQ0 _)) ?_)
             | (refine callQG (fun hc => (hQ0 _)) ?_)
             | (refine callS (hK0 _) ?_)
             | (refine callQ (hK0 _) ?_)
             | (refine callG (fun hc => (hK0 _)) ?_)
             | (refine callQG (fun hc => (hK0 _)) ?_)
             | (refine callS (hJ0 _) ?_)
             | (refine callQ (hJ0 _) ?_)
             | (refine callG (fun hc => (hJ0 _)) ?_)
             | (refine callQG (fun hc => (hJ0 _)) ?_)); simp -implicitDefEqProofs only [lenMax, bne_self_eq_false, push_cast, Nat.reduceEqDiff, Nat.reduceBEq, Nat.reduceBNe, Nat.reduceAdd, Nat.reduceMul, Nat.reduceLT, Nat.reduceLeDiff, Nat.reduceSub, reduceCtorEq, Int.reduceToNat, ↓reduceIte]))
      all_goals first
        | omega
        | (right; rw [legB_spec]; exact beq_self_eq_true _)
        | trace_state
  · rw [hv] at hI hS
    cases hb' : legB d with
    | true =>
      rw [hb', if_pos rfl] at hWd hR0
      rw [bare_legB hb', if_pos rfl, hbare] at hW0
      rw [legVI_write hb'] at hR0
      have hne : decide (legT d = []) = false := decide_eq_false fun e => by
        have := legT_split (legP_of hb')
        rw [e] at this
        have := congrArg List.length this
        simp [splitC] at this
      generalize legT d = td at hWd hR0 hW0 hne
      refine meets_of [] mixed Tryz.func4 rfl (by kernel_rfl) (by kernel_rfl) (by rw [Tryz.ntmps4]; simp only [List.length_cons, List.length_nil]; omega) (fun hf => ?_)
      rw [Tryz.results4]
      clear hf
      try simp -implicitDefEqProofs only [hne, lenMax, bne_self_eq_false, push_cast, Nat.reduceEqDiff, Nat.reduceBEq, Nat.reduceBNe, Nat.reduceAdd, Nat.reduceMul, Nat.reduceLT, Nat.reduceLeDiff, Nat.reduceSub, reduceCtorEq, Int.reduceToNat, ↓reduceIte]
      repeat'
        (first
         | (refine uYes ?_; first | exact List.mem_cons_self | (simp only [List.mem_cons, List.not_mem_nil, or_false, true_or, or_true]; done))
         | (refine uNo (by kernel_rfl))
         | (refine flatMk ?_; kernel_rfl)
         | (refine And.intro ?_ ?_)
         | (intro hx)
         | ((first
             | (refine callGF ?_)
             | (refine callQGF ?_)
             | (refine skipG ?_)
             | (refine callS (hD _) ?_)
             | (refine callQ (hD _) ?_)
             | (refine callG (fun hc => (hD _)) ?_)
             | (refine callQG (fun hc => (hD _)) ?_)
             | (refine callS (hI _) ?_)
             | (refine callQ (hI _) ?_)
             | (refine callG (fun hc => (hI _)) ?_)
             | (refine callQG (fun hc => (hI _)) ?_)
             | (refine callS (hS _) ?_)
             | (refine callQ (hS _) ?_)
             | (refine callG (fun hc => (hS _)) ?_)
             | (refine callQG (fun hc => (hS _)) ?_)
             | (refine callS (wsLeg_gives default _) ?_)
             | (refine callQ (wsLeg_gives default _) ?_)
             | (refine callG (fun hc => (wsLeg_gives default _)) ?_)
             | (refine callQG (fun hc => (wsLeg_gives default _)) ?_)
             | (refine callS (implLegWrite_gives default _) ?_)
             | (refine callQ (implLegWrite_gives default _) ?_)
             | (refine callG (fun hc => (implLegWrite_gives default _)) ?_)
             | (refine callQG (fun hc => (implLegWrite_gives default _)) ?_)
             | (refine callS (hE _) ?_)
             | (refine callQ (hE _) ?_)
             | (refine callG (fun hc => (hE _)) ?_)
             | (refine callQG (fun hc => (hE _)) ?_)
             | (refine callS (hWd _) ?_)
             | (refine callQ (hWd _) ?_)
             | (refine callG (fun hc => (hWd _)) ?_)
             | (refine callQG (fun hc => (hWd _)) ?_)
             | (refine callS (hR0 _) ?_)
             | (refine callQ (hR0 _) ?_)
             | (refine callG (fun hc => (hR0 _)) ?_)
             | (refine callQG (fun hc => (hR0 _)) ?_)
             | (refine callS (hW0 _) ?_)
             | (refine callQ (hW0 _) ?_)
             | (refine callG (fun hc => (hW0 _)) ?_)
             | (refine callQG (fun hc => (hW0 _)) ?_)
             | (refine callS (hQ0 _) ?_)
             | (refine callQ (hQ0 _) ?_)
             | (refine callG (fun hc => (hQ0 _)) ?_)
             | (refine callQG (fun hc => (hQ0 _)) ?_)
             | (refine callS (hK0 _) ?_)
             | (refine callQ (hK0 _) ?_)
             | (refine callG (fun hc => (hK0 _)) ?_)
             | (refine callQG (fun hc => (hK0 _)) ?_)
             | (refine callS (hJ0 _) ?_)
             | (refine callQ (hJ0 _) ?_)
             | (refine callG (fun hc => (hJ0 _)) ?_)
             | (refine callQG (fun hc => (hJ0 _)) ?_)); simp -implicitDefEqProofs only [hne, lenMax, bne_self_eq_false, push_cast, Nat.reduceEqDiff, Nat.reduceBEq, Nat.reduceBNe, Nat.reduceAdd, Nat.reduceMul, Nat.reduceLT, Nat.reduceLeDiff, Nat.reduceSub, reduceCtorEq, Int.reduceToNat, ↓reduceIte]))
      all_goals first
        | omega
        | (right; rw [legB_spec]; exact beq_self_eq_true _)
        | trace_state
    | false =>
      rw [hb', if_neg (by decide)] at hWd hR0
      have hr0 : legVI [] = (default, false) := rfl
      rw [hr0] at hR0
      generalize (if legB d.bare = true then legT d.bare else []) = td at hW0
      refine meets_of [] mixed Tryz.func4 rfl (by kernel_rfl) (by kernel_rfl) (by rw [Tryz.ntmps4]; simp only [List.length_cons, List.length_nil]; omega) (fun hf => ?_)
      rw [Tryz.results4]
      clear hf
      try simp -implicitDefEqProofs only [lenMax, bne_self_eq_false, push_cast, Nat.reduceEqDiff, Nat.reduceBEq, Nat.reduceBNe, Nat.reduceAdd, Nat.reduceMul, Nat.reduceLT, Nat.reduceLeDiff, Nat.reduceSub, reduceCtorEq, Int.reduceToNat, ↓reduceIte]
      repeat'
        (first
         | (refine uYes ?_; first | exact List.mem_cons_self | (simp only [List.mem_cons, List.not_mem_nil, or_false, true_or, or_true]; done))
         | (refine uNo (by kernel_rfl))
         | (refine flatMk ?_; kernel_rfl)
         | (refine And.intro ?_ ?_)
         | (intro hx)
         | ((first
             | (refine callGF ?_)
             | (refine callQGF ?_)
             | (refine skipG ?_)
             | (refine callS (hD _) ?_)
             | (refine callQ (hD _) ?_)
             | (refine callG (fun hc => (hD _)) ?_)
             | (refine callQG (fun hc => (hD _)) ?_)
             | (refine callS (hI _) ?_)
             | (refine callQ (hI _) ?_)
             | (refine callG (fun hc => (hI _)) ?_)
             | (refine callQG (fun hc => (hI _)) ?_)
             | (refine callS (hS _) ?_)
             | (refine callQ (hS _) ?_)
             | (refine callG (fun hc => (hS _)) ?_)
             | (refine callQG (fun hc => (hS _)) ?_)
             | (refine callS (wsLeg_gives default _) ?_)
             | (refine callQ (wsLeg_gives default _) ?_)
             | (refine callG (fun hc => (wsLeg_gives default _)) ?_)
             | (refine callQG (fun hc => (wsLeg_gives default _)) ?_)
             | (refine callS (implLegWrite_gives default _) ?_)
             | (refine callQ (implLegWrite_gives default _) ?_)
             | (refine callG (fun hc => (implLegWrite_gives default _)) ?_)
             | (refine callQG (fun hc => (implLegWrite_gives default _)) ?_)
             | (refine callS (hE _) ?_)
             | (refine callQ (hE _) ?_)
             | (refine callG (fun hc => (hE _)) ?_)
             | (refine callQG (fun hc => (hE _)) ?_)
             | (refine callS (hWd _) ?_)
             | (refine callQ (hWd _) ?_)
             | (refine callG (fun hc => (hWd _)) ?_)
             | (refine callQG (fun hc => (hWd _)) ?_)
             | (refine callS (hR0 _) ?_)
             | (refine callQ (hR0 _) ?_)
             | (refine callG (fun hc => (hR0 _)) ?_)
             | (refine callQG (fun hc => (hR0 _)) ?_)
             | (refine callS (hW0 _) ?_)
             | (refine callQ (hW0 _) ?_)
             | (refine callG (fun hc => (hW0 _)) ?_)
             | (refine callQG (fun hc => (hW0 _)) ?_)
             | (refine callS (hQ0 _) ?_)
             | (refine callQ (hQ0 _) ?_)
             | (refine callG (fun hc => (hQ0 _)) ?_)
             | (refine callQG (fun hc => (hQ0 _)) ?_)
             | (refine callS (hK0 _) ?_)
             | (refine callQ (hK0 _) ?_)
             | (refine callG (fun hc => (hK0 _)) ?_)
             | (refine callQG (fun hc => (hK0 _)) ?_)
             | (refine callS (hJ0 _) ?_)
             | (refine callQ (hJ0 _) ?_)
             | (refine callG (fun hc => (hJ0 _)) ?_)
             | (refine callQG (fun hc => (hJ0 _)) ?_)); simp -implicitDefEqProofs only [lenMax, bne_self_eq_false, push_cast, Nat.reduceEqDiff, Nat.reduceBEq, Nat.reduceBNe, Nat.reduceAdd, Nat.reduceMul, Nat.reduceLT, Nat.reduceLeDiff, Nat.reduceSub, reduceCtorEq, Int.reduceToNat, ↓reduceIte]))
      all_goals first
        | omega
        | (right; rw [legB_spec]; exact beq_self_eq_true _)
        | trace_state
end Go.Proofs.YtdoclnjmcmdfdaaGreatDoor
