/- Contracts of functions of the program (Gk). -/
import Derived.Test.YtcmpcpigchlhpaaGj

namespace Go.Proofs.Ytcmpcpigchlhpaa
set_option linter.unusedSectionVars false
open Go.Av
variable [Av.Start]
set_option maxRecDepth 10000
set_option maxHeartbeats 1000000
set_option linter.unusedSimpArgs false
set_option linter.unusedVariables false
attribute [local irreducible] finS

/-- a copy of a leg, its slices' buffers in the objects behind k -/
def Leg.bf (l : Leg) (lim sold : D) (k : Nat) : List D := [.str l.name, .str l.src, .str l.dst, .int .i64 l.dep, .int .i64 l.arr, .int .i64 l.cap, lim, sold, .slice (l.bids.map (.int .i64)) (.buf (k + 4) 1), .slice (l.holds.map Hold.d) (.buf (k + 5) 3)]
omit [Av.Start] in
theorem Leg.bf_cl (l : Leg) {lim sold : D} {k n : Nat} (h1 : Cl n lim) (h2 : Cl n sold) (h : k + 5 < n) : ObCl n (.row (l.bf lim sold k)) := by
  intro d hd
  simp only [Leg.bf, List.mem_cons, List.not_mem_nil, or_false] at hd
  rcases hd with rfl | rfl | rfl | rfl | rfl | rfl | rfl | rfl | rfl | rfl
  · exact .str _
  · exact .str _
  · exact .str _
  · exact .int _ _
  · exact .int _ _
  · exact .int _ _
  · exact h1
  · exact h2
  · exact .slice _ _ (fun _ _ e => by cases e; omega)
  · exact .slice _ _ (fun _ _ e => by cases e; omega)
theorem copyB (l : Leg) (h : Hp) : Meets Try.prog 67 [l.d] h fun d' h' => d' = .agg (l.bf (.slice (l.limits.map (.int .i64)) (.buf (h.length + 2) 1)) (.slice (l.sold.map (.int .i64)) (.buf (h.length + 3) 1)) h.length) ∧
    h' = h ++ [.row (l.bf (.slice (l.limits.map (.int .i64)) (.buf (h.length + 2) 1)) (.slice (l.sold.map (.int .i64)) (.buf (h.length + 3) 1)) h.length), .row (l.bf (.slice (l.limits.map (.int .i64)) (.buf (h.length + 2) 1)) (.slice (l.sold.map (.int .i64)) (.buf (h.length + 3) 1)) h.length), .buf l.limits.length, .buf l.sold.length, .buf l.bids.length, .buf (l.holds.length * 3)] := by
  refine meets_of [] mixed Try.func67 rfl (by kernel_rfl) (by kernel_rfl) (by rw [Try.ntmps67]; simp only [List.length_cons, List.length_nil]; omega) (fun hf => ?_)
  rw [Try.results67]
  obtain ⟨_, _, _, hf1, hf2, hf3, hf4⟩ := Leg.fit (hf l.d (by simp))
  clear hf
  try simp -implicitDefEqProofs only [lenMax, Leg.bf, push_cast, Nat.reduceEqDiff, Nat.reduceBEq, Nat.reduceBNe, Nat.reduceAdd, Nat.reduceMul, Nat.reduceLT, Nat.reduceLeDiff, Nat.reduceSub, reduceCtorEq, Int.reduceToNat, ↓reduceIte]
  repeat'
    (first
     | (refine uYes ?_; first | exact List.mem_cons_self | (simp only [List.mem_cons, List.not_mem_nil, or_false, true_or, or_true]; done))
     | (refine uNo (by kernel_rfl))
     | (refine flatMk ?_; kernel_rfl)
     | (refine And.intro ?_ ?_)
     | (intro hx)
     | ((first
         | (refine callGF ?_)
         | (refine callQGF ?_)
         | (refine skipG ?_)
         | (refine callS (in_gives _ _ _ _) ?_)
         | (refine callQ (in_gives _ _ _ _) ?_)
         | (refine callG (fun hc => (in_gives _ _ _ _)) ?_)
         | (refine callQG (fun hc => (in_gives _ _ _ _)) ?_)); simp -implicitDefEqProofs only [lenMax, Leg.bf, push_cast, Nat.reduceEqDiff, Nat.reduceBEq, Nat.reduceBNe, Nat.reduceAdd, Nat.reduceMul, Nat.reduceLT, Nat.reduceLeDiff, Nat.reduceSub, reduceCtorEq, Int.reduceToNat, ↓reduceIte]))
  all_goals first
    | omega
    | exact ints_c1 _ _ hx
    | exact holds_c1 _ _ hx
    | trace_state
theorem copyL (l : Leg) (h : Hp) : Meets Try.prog 67 [l.d] h fun d' h' => d' = .agg (l.bf (.vec (h.length + 2) false 1 0 l.limits.length l.limits.length) (.slice (l.sold.map (.int .i64)) (.buf (h.length + 3) 1)) h.length) ∧
    h' = h ++ [.row (l.bf (.vec (h.length + 2) false 1 0 l.limits.length l.limits.length) (.slice (l.sold.map (.int .i64)) (.buf (h.length + 3) 1)) h.length), .row (l.bf (.vec (h.length + 2) false 1 0 l.limits.length l.limits.length) (.slice (l.sold.map (.int .i64)) (.buf (h.length + 3) 1)) h.length), .row (l.limits.map (.int .i64)), .buf l.sold.length, .buf l.bids.length, .buf (l.holds.length * 3)] := by
  refine meets_of [6] mixed Try.func67 rfl (by kernel_rfl) (by kernel_rfl) (by rw [Try.ntmps67]; simp only [List.length_cons, List.length_nil]; omega) (fun hf => ?_)
  rw [Try.results67]
  obtain ⟨_, _, _, hf1, hf2, hf3, hf4⟩ := Leg.fit (hf l.d (by simp))
  clear hf
  try simp -implicitDefEqProofs only [lenMax, Leg.bf, push_cast, Nat.reduceEqDiff, Nat.reduceBEq, Nat.reduceBNe, Nat.reduceAdd, Nat.reduceMul, Nat.reduceLT, Nat.reduceLeDiff, Nat.reduceSub, reduceCtorEq, Int.reduceToNat, ↓reduceIte]
  repeat'
    (first
     | (refine uYes ?_; first | exact List.mem_cons_self | (simp only [List.mem_cons, List.not_mem_nil, or_false, true_or, or_true]; done))
     | (refine uNo (by kernel_rfl))
     | (refine flatMk ?_; kernel_rfl)
     | (refine And.intro ?_ ?_)
     | (intro hx)
     | ((first
         | (refine callGF ?_)
         | (refine callQGF ?_)
         | (refine skipG ?_)
         | (refine callS (in_gives _ _ _ _) ?_)
         | (refine callQ (in_gives _ _ _ _) ?_)
         | (refine callG (fun hc => (in_gives _ _ _ _)) ?_)
         | (refine callQG (fun hc => (in_gives _ _ _ _)) ?_)); simp -implicitDefEqProofs only [lenMax, Leg.bf, push_cast, Nat.reduceEqDiff, Nat.reduceBEq, Nat.reduceBNe, Nat.reduceAdd, Nat.reduceMul, Nat.reduceLT, Nat.reduceLeDiff, Nat.reduceSub, reduceCtorEq, Int.reduceToNat, ↓reduceIte]))
  all_goals first
    | omega
    | exact ints_c1 _ _ hx
    | exact ints_cl _ _ _ hx
    | exact holds_c1 _ _ hx
    | trace_state
theorem copyS (l : Leg) (h : Hp) : Meets Try.prog 67 [l.d] h fun d' h' => d' = .agg (l.bf (.slice (l.limits.map (.int .i64)) (.buf (h.length + 2) 1)) (.vec (h.length + 3) false 1 0 l.sold.length l.sold.length) h.length) ∧
    h' = h ++ [.row (l.bf (.slice (l.limits.map (.int .i64)) (.buf (h.length + 2) 1)) (.vec (h.length + 3) false 1 0 l.sold.length l.sold.length) h.length), .row (l.bf (.slice (l.limits.map (.int .i64)) (.buf (h.length + 2) 1)) (.vec (h.length + 3) false 1 0 l.sold.length l.sold.length) h.length), .buf l.limits.length, .row (l.sold.map (.int .i64)), .buf l.bids.length, .buf (l.holds.length * 3)] := by
  refine meets_of [11] mixed Try.func67 rfl (by kernel_rfl) (by kernel_rfl) (by rw [Try.ntmps67]; simp only [List.length_cons, List.length_nil]; omega) (fun hf => ?_)
  rw [Try.results67]
  obtain ⟨_, _, _, hf1, hf2, hf3, hf4⟩ := Leg.fit (hf l.d (by simp))
  clear hf
  try simp -implicitDefEqProofs only [lenMax, Leg.bf, push_cast, Nat.reduceEqDiff, Nat.reduceBEq, Nat.reduceBNe, Nat.reduceAdd, Nat.reduceMul, Nat.reduceLT, Nat.reduceLeDiff, Nat.reduceSub, reduceCtorEq, Int.reduceToNat, ↓reduceIte]
  repeat'
    (first
     | (refine uYes ?_; first | exact List.mem_cons_self | (simp only [List.mem_cons, List.not_mem_nil, or_false, true_or, or_true]; done))
     | (refine uNo (by kernel_rfl))
     | (refine flatMk ?_; kernel_rfl)
     | (refine And.intro ?_ ?_)
     | (intro hx)
     | ((first
         | (refine callGF ?_)
         | (refine callQGF ?_)
         | (refine skipG ?_)
         | (refine callS (in_gives _ _ _ _) ?_)
         | (refine callQ (in_gives _ _ _ _) ?_)
         | (refine callG (fun hc => (in_gives _ _ _ _)) ?_)
         | (refine callQG (fun hc => (in_gives _ _ _ _)) ?_)); simp -implicitDefEqProofs only [lenMax, Leg.bf, push_cast, Nat.reduceEqDiff, Nat.reduceBEq, Nat.reduceBNe, Nat.reduceAdd, Nat.reduceMul, Nat.reduceLT, Nat.reduceLeDiff, Nat.reduceSub, reduceCtorEq, Int.reduceToNat, ↓reduceIte]))
  all_goals first
    | omega
    | exact ints_c1 _ _ hx
    | exact ints_cl _ _ _ hx
    | exact holds_c1 _ _ hx
    | trace_state

/-- the leg that l14SpoilLeg makes, and the place behind -/
def spoilS (bs : List Int) (p : Int) (l : Leg) : Leg × Int :=
  if pickV bs p 9 = 0 then ({ l with name := ([[], [65], [108, 98]] : List (List UInt8)).getD (pickV bs (p + 1) 3).toNat [] }, p + 1 + 1)
  else if pickV bs p 9 = 1 then ({ l with dst := l.src }, p + 1)
  else if pickV bs p 9 = 2 then ({ l with arr := l.dep }, p + 1)
  else if pickV bs p 9 = 3 then ({ l with cap := [0, 10, l.cap + 1].getD (pickV bs (p + 1) 3).toNat 0 }, p + 1 + 1)
  else if pickV bs p 9 = 4 then ({ l with limits := l.limits.set (pickV bs (p + 1) 3).toNat (pickV bs (p + 1 + 1) 12 - 1) }, p + 1 + 1 + 1)
  else if pickV bs p 9 = 5 then ({ l with sold := l.sold.set (pickV bs (p + 1) 3).toNat (pickV bs (p + 1 + 1) 12 - 1) }, p + 1 + 1 + 1)
  else if pickV bs p 9 = 6 then ({ l with bids := l.bids ++ [pickV bs (p + 1) 2000 - 1] }, p + 1 + 1)
  else if pickV bs p 9 = 7 then ({ l with holds := l.holds ++ [⟨pickV bs (p + 1) 9, pickV bs (p + 1 + 1) 4, pickV bs (p + 1 + 1 + 1) 5 - 2⟩] }, p + 1 + 1 + 1 + 1)
  else ({ l with limits := l.limits.drop 1 }, p + 1)
omit [Av.Start] in
theorem getD3i (a b c : Int) (i : Nat) : [D.int .i64 a, .int .i64 b, .int .i64 c].getD i (.int .i64 0) = .int .i64 ([a, b, c].getD i 0) := getD_map (D.int .i64) 0 [a, b, c] i
omit [Av.Start] in
theorem rp4 {h : Hp} {r n : Nat} (X a b c d : Ob) (xs : List Int) (tl : Hp) (hn : xs.length = n) : rowPart (h.set r X ++ a :: b :: c :: d :: .row (xs.map (.int .i64)) :: tl) (h.length + 4) 1 0 n = xs.map (.int .i64) := by
  have := rp_ints (h := h.set r X) (rows := a :: b :: c :: d :: .row (xs.map (.int .i64)) :: tl) (k := 4) (n := n) (xs := xs) rfl hn.symm
  rwa [List.length_set] at this
omit [Av.Start] in
theorem rp5 {h : Hp} {r n : Nat} (X a b c d e : Ob) (xs : List Int) (tl : Hp) (hn : xs.length = n) : rowPart (h.set r X ++ a :: b :: c :: d :: e :: .row (xs.map (.int .i64)) :: tl) (h.length + 5) 1 0 n = xs.map (.int .i64) := by
  have := rp_ints (h := h.set r X) (rows := a :: b :: c :: d :: e :: .row (xs.map (.int .i64)) :: tl) (k := 5) (n := n) (xs := xs) rfl hn.symm
  rwa [List.length_set] at this
theorem l14Spoil0 (bs : List Int) (p : Int) (l : Leg) (r : Nat) (h : Hp) (hr : ob h r = .row (rdC bs p)) (hrl : r < h.length) (H : Rd bs (p + 20)) (hp0 : 0 ≤ p) (hl : LegP l) (e : pickV bs p 9 = 0) :
    Meets Try.prog 47 [.ptr r 0, l.d] h fun d' h' => d' = (spoilS bs p l).1.d ∧ h' = h.set r (.row (rdC bs (spoilS bs p l).2)) := by
  have hhi := H.hi
  have hc := hl.cap
  have h3 := hl.limits
  have hs3 := hl.sold
  have hb4 := hl.bids
  have hh6 := hl.holds
  obtain ⟨r1, r2, r3, r4, r5, r6, r7, r8, r9⟩ := rdf hrl
  have r4' := fun ls => (r4 ls).trans hr
  have v0 := pickV_range (p := p) (H.up (by omega) (by omega)) 9 (by omega)
  have v1 := pickV_range (p := p + 1) (H.up (by omega) (by omega)) 3 (by omega)
  have v2 := pickV_range (p := p + 1 + 1) (H.up (by omega) (by omega)) 12 (by omega)
  rw [spoilS, e]
  simp only [if_true]
  refine meets_of [] mixed Try.func47 rfl (by kernel_rfl) (by kernel_rfl) (by rw [Try.ntmps47]; simp only [List.length_cons, List.length_nil]; omega) (fun hf => ?_)
  rw [Try.results47]
  clear hf
  try simp -implicitDefEqProofs only [e, Leg.bf, rp4, rp5, r1, r2, r5, r6, r7, r8, lenMax, List.length_set, Nat.add_assoc, Int.reduceAdd, push_cast, Nat.reduceEqDiff, Nat.reduceBEq, Nat.reduceBNe, Nat.reduceAdd, Nat.reduceMul, Nat.reduceLT, Nat.reduceLeDiff, Nat.reduceSub, reduceCtorEq, Int.reduceToNat, ↓reduceIte]
  repeat'
    (first
     | (refine uYes ?_; first | exact List.mem_cons_self | (simp only [List.mem_cons, List.not_mem_nil, or_false, true_or, or_true]; done))
     | (refine uNo (by kernel_rfl))
     | (refine flatMk ?_; kernel_rfl)
     | (refine And.intro ?_ ?_)
     | (intro hx)
     | ((first
         | (refine callGF ?_)
         | (refine callQGF ?_)
         | (refine skipG ?_)
         | (refine inX_mk [r] (by kernel_rfl) (by simp; omega) ?_)
         | (refine callM (copyB l _) ?_)
         | (refine callM (dst := some 9) (pick_gives bs p _ r _ (r4' _) (by simp; omega) (H.up (by omega) (by omega))) ?_)
         | (refine callM (of_gives bs _ [[], [65], [108, 98]] .full r _ (r3 _ _) (by simp; omega) (H.up (by omega) (by omega)) (by simp)) ?_)
         | (refine callXR (r := r) (by simp) (by simp; omega) (fun h' hr' hl' => pick_gives bs _ _ r h' (hr'.trans (r3 _ _)) hl' (H.up (by omega) (by omega))) ?_)); simp -implicitDefEqProofs only [e, Leg.bf, rp4, rp5, r1, r2, r5, r6, r7, r8, lenMax, List.length_set, Nat.add_assoc, Int.reduceAdd, push_cast, Nat.reduceEqDiff, Nat.reduceBEq, Nat.reduceBNe, Nat.reduceAdd, Nat.reduceMul, Nat.reduceLT, Nat.reduceLeDiff, Nat.reduceSub, reduceCtorEq, Int.reduceToNat, ↓reduceIte]))
  all_goals first
    | omega
    | exact back_rd hrl bs _ _
    | (rw [List.map_append]; rfl)
    | exact ints_cl _ _ _ hx
    | exact chunk_ints _ _ (by simp)
    | (obtain ⟨y, _, rfl⟩ := List.mem_map.1 hx; rfl)
    | (obtain rfl : _ = _ := List.mem_singleton.1 hx; trivial)
    | trace_state
theorem l14Spoil1 (bs : List Int) (p : Int) (l : Leg) (r : Nat) (h : Hp) (hr : ob h r = .row (rdC bs p)) (hrl : r < h.length) (H : Rd bs (p + 20)) (hp0 : 0 ≤ p) (hl : LegP l) (e : pickV bs p 9 = 1) :
    Meets Try.prog 47 [.ptr r 0, l.d] h fun d' h' => d' = (spoilS bs p l).1.d ∧ h' = h.set r (.row (rdC bs (spoilS bs p l).2)) := by
  have hhi := H.hi
  have hc := hl.cap
  have h3 := hl.limits
  have hs3 := hl.sold
  have hb4 := hl.bids
  have hh6 := hl.holds
  obtain ⟨r1, r2, r3, r4, r5, r6, r7, r8, r9⟩ := rdf hrl
  have r4' := fun ls => (r4 ls).trans hr
  have v0 := pickV_range (p := p) (H.up (by omega) (by omega)) 9 (by omega)
  have v1 := pickV_range (p := p + 1) (H.up (by omega) (by omega)) 3 (by omega)
  have v2 := pickV_range (p := p + 1 + 1) (H.up (by omega) (by omega)) 12 (by omega)
  rw [spoilS, e]
  simp only [show ¬ ((1 : Int) = 0) by decide, if_true, if_false]
  refine meets_of [] mixed Try.func47 rfl (by kernel_rfl) (by kernel_rfl) (by rw [Try.ntmps47]; simp only [List.length_cons, List.length_nil]; omega) (fun hf => ?_)
  rw [Try.results47]
  clear hf
  try simp -implicitDefEqProofs only [e, Leg.bf, rp4, rp5, r1, r2, r5, r6, r7, r8, lenMax, List.length_set, Nat.add_assoc, Int.reduceAdd, push_cast, Nat.reduceEqDiff, Nat.reduceBEq, Nat.reduceBNe, Nat.reduceAdd, Nat.reduceMul, Nat.reduceLT, Nat.reduceLeDiff, Nat.reduceSub, reduceCtorEq, Int.reduceToNat, ↓reduceIte]
  repeat'
    (first
     | (refine uYes ?_; first | exact List.mem_cons_self | (simp only [List.mem_cons, List.not_mem_nil, or_false, true_or, or_true]; done))
     | (refine uNo (by kernel_rfl))
     | (refine flatMk ?_; kernel_rfl)
     | (refine And.intro ?_ ?_)
     | (intro hx)
     | ((first
         | (refine callGF ?_)
         | (refine callQGF ?_)
         | (refine skipG ?_)
         | (refine inX_mk [r] (by kernel_rfl) (by simp; omega) ?_)
         | (refine callM (copyB l _) ?_)
         | (refine callM (dst := some 9) (pick_gives bs p _ r _ (r4' _) (by simp; omega) (H.up (by omega) (by omega))) ?_)
         | (refine callM (of_gives bs _ [[], [65], [108, 98]] .full r _ (r3 _ _) (by simp; omega) (H.up (by omega) (by omega)) (by simp)) ?_)
         | (refine callXR (r := r) (by simp) (by simp; omega) (fun h' hr' hl' => pick_gives bs _ _ r h' (hr'.trans (r3 _ _)) hl' (H.up (by omega) (by omega))) ?_)); simp -implicitDefEqProofs only [e, Leg.bf, rp4, rp5, r1, r2, r5, r6, r7, r8, lenMax, List.length_set, Nat.add_assoc, Int.reduceAdd, push_cast, Nat.reduceEqDiff, Nat.reduceBEq, Nat.reduceBNe, Nat.reduceAdd, Nat.reduceMul, Nat.reduceLT, Nat.reduceLeDiff, Nat.reduceSub, reduceCtorEq, Int.reduceToNat, ↓reduceIte]))
  all_goals first
    | omega
    | exact back_rd hrl bs _ _
    | (rw [List.map_append]; rfl)
    | exact ints_cl _ _ _ hx
    | exact chunk_ints _ _ (by simp)
    | (obtain ⟨y, _, rfl⟩ := List.mem_map.1 hx; rfl)
    | (obtain rfl : _ = _ := List.mem_singleton.1 hx; trivial)
    | trace_state
theorem l14Spoil2 (bs : List Int) (p : Int) (l : Leg) (r : Nat) (h : Hp) (hr : ob h r = .row (rdC bs p)) (hrl : r < h.length) (H : Rd bs (p + 20)) (hp0 : 0 ≤ p) (hl : LegP l) (e : pickV bs p 9 = 2) :
    Meets Try.prog 47 [.ptr r 0, l.d] h fun d' h' => d' = (spoilS bs p l).1.d ∧ h' = h.set r (.row (rdC bs (spoilS bs p l).2)) := by
  have hhi := H.hi
  have hc := hl.cap
  have h3 := hl.limits
  have hs3 := hl.sold
  have hb4 := hl.bids
  have hh6 := hl.holds
  obtain ⟨r1, r2, r3, r4, r5, r6, r7, r8, r9⟩ := rdf hrl
  have r4' := fun ls => (r4 ls).trans hr
  have v0 := pickV_range (p := p) (H.up (by omega) (by omega)) 9 (by omega)
  have v1 := pickV_range (p := p + 1) (H.up (by omega) (by omega)) 3 (by omega)
  have v2 := pickV_range (p := p + 1 + 1) (H.up (by omega) (by omega)) 12 (by omega)
  rw [spoilS, e]
  simp only [show ¬ ((2 : Int) = 0) by decide, show ¬ ((2 : Int) = 1) by decide, if_true, if_false]
  refine meets_of [] mixed Try.func47 rfl (by kernel_rfl) (by kernel_rfl) (by rw [Try.ntmps47]; simp only [List.length_cons, List.length_nil]; omega) (fun hf => ?_)
  rw [Try.results47]
  clear hf
  try simp -implicitDefEqProofs only [e, Leg.bf, rp4, rp5, r1, r2, r5, r6, r7, r8, lenMax, List.length_set, Nat.add_assoc, Int.reduceAdd, push_cast, Nat.reduceEqDiff, Nat.reduceBEq, Nat.reduceBNe, Nat.reduceAdd, Nat.reduceMul, Nat.reduceLT, Nat.reduceLeDiff, Nat.reduceSub, reduceCtorEq, Int.reduceToNat, ↓reduceIte]
  repeat'
    (first
     | (refine uYes ?_; first | exact List.mem_cons_self | (simp only [List.mem_cons, List.not_mem_nil, or_false, true_or, or_true]; done))
     | (refine uNo (by kernel_rfl))
     | (refine flatMk ?_; kernel_rfl)
     | (refine And.intro ?_ ?_)
     | (intro hx)
     | ((first
         | (refine callGF ?_)
         | (refine callQGF ?_)
         | (refine skipG ?_)
         | (refine inX_mk [r] (by kernel_rfl) (by simp; omega) ?_)
         | (refine callM (copyB l _) ?_)
         | (refine callM (dst := some 9) (pick_gives bs p _ r _ (r4' _) (by simp; omega) (H.up (by omega) (by omega))) ?_)
         | (refine callM (of_gives bs _ [[], [65], [108, 98]] .full r _ (r3 _ _) (by simp; omega) (H.up (by omega) (by omega)) (by simp)) ?_)
         | (refine callXR (r := r) (by simp) (by simp; omega) (fun h' hr' hl' => pick_gives bs _ _ r h' (hr'.trans (r3 _ _)) hl' (H.up (by omega) (by omega))) ?_)); simp -implicitDefEqProofs only [e, Leg.bf, rp4, rp5, r1, r2, r5, r6, r7, r8, lenMax, List.length_set, Nat.add_assoc, Int.reduceAdd, push_cast, Nat.reduceEqDiff, Nat.reduceBEq, Nat.reduceBNe, Nat.reduceAdd, Nat.reduceMul, Nat.reduceLT, Nat.reduceLeDiff, Nat.reduceSub, reduceCtorEq, Int.reduceToNat, ↓reduceIte]))
  all_goals first
    | omega
    | exact back_rd hrl bs _ _
    | (rw [List.map_append]; rfl)
    | exact ints_cl _ _ _ hx
    | exact chunk_ints _ _ (by simp)
    | (obtain ⟨y, _, rfl⟩ := List.mem_map.1 hx; rfl)
    | (obtain rfl : _ = _ := List.mem_singleton.1 hx; trivial)
    | trace_state
theorem l14Spoil3 (bs : List Int) (p : Int) (l : Leg) (r : Nat) (h : Hp) (hr : ob h r = .row (rdC bs p)) (hrl : r < h.length) (H : Rd bs (p + 20)) (hp0 : 0 ≤ p) (hl : LegP l) (e : pickV bs p 9 = 3) :
    Meets Try.prog 47 [.ptr r 0, l.d] h fun d' h' => d' = (spoilS bs p l).1.d ∧ h' = h.set r (.row (rdC bs (spoilS bs p l).2)) := by
  have hhi := H.hi
  have hc := hl.cap
  have h3 := hl.limits
  have hs3 := hl.sold
  have hb4 := hl.bids
  have hh6 := hl.holds
  obtain ⟨r1, r2, r3, r4, r5, r6, r7, r8, r9⟩ := rdf hrl
  have r4' := fun ls => (r4 ls).trans hr
  have v0 := pickV_range (p := p) (H.up (by omega) (by omega)) 9 (by omega)
  have v1 := pickV_range (p := p + 1) (H.up (by omega) (by omega)) 3 (by omega)
  have v2 := pickV_range (p := p + 1 + 1) (H.up (by omega) (by omega)) 12 (by omega)
  rw [spoilS, e]
  simp only [show ¬ ((3 : Int) = 0) by decide, show ¬ ((3 : Int) = 1) by decide, show ¬ ((3 : Int) = 2) by decide, if_true, if_false]
  have w1 : IntKind.i64.wrap (l.cap + 1) = l.cap + 1 := wrap_id (by omega) (by omega)
  refine meets_of [] mixed Try.func47 rfl (by kernel_rfl) (by kernel_rfl) (by rw [Try.ntmps47]; simp only [List.length_cons, List.length_nil]; omega) (fun hf => ?_)
  rw [Try.results47]
  clear hf
  try simp -implicitDefEqProofs only [e, Leg.bf, rp4, rp5, r1, r2, r5, r6, r7, r8, lenMax, List.length_set, Nat.add_assoc, Int.reduceAdd, w1, getD3i, push_cast, Nat.reduceEqDiff, Nat.reduceBEq, Nat.reduceBNe, Nat.reduceAdd, Nat.reduceMul, Nat.reduceLT, Nat.reduceLeDiff, Nat.reduceSub, reduceCtorEq, Int.reduceToNat, ↓reduceIte]
  repeat'
    (first
     | (refine uYes ?_; first | exact List.mem_cons_self | (simp only [List.mem_cons, List.not_mem_nil, or_false, true_or, or_true]; done))
     | (refine uNo (by kernel_rfl))
     | (refine flatMk ?_; kernel_rfl)
     | (refine And.intro ?_ ?_)
     | (intro hx)
     | ((first
         | (refine callGF ?_)
         | (refine callQGF ?_)
         | (refine skipG ?_)
         | (refine inX_mk [r] (by kernel_rfl) (by simp; omega) ?_)
         | (refine callM (copyB l _) ?_)
         | (refine callM (dst := some 9) (pick_gives bs p _ r _ (r4' _) (by simp; omega) (H.up (by omega) (by omega))) ?_)
         | (refine callM (of_gives bs _ [[], [65], [108, 98]] .full r _ (r3 _ _) (by simp; omega) (H.up (by omega) (by omega)) (by simp)) ?_)
         | (refine callXR (r := r) (by simp) (by simp; omega) (fun h' hr' hl' => pick_gives bs _ _ r h' (hr'.trans (r3 _ _)) hl' (H.up (by omega) (by omega))) ?_)); simp -implicitDefEqProofs only [e, Leg.bf, rp4, rp5, r1, r2, r5, r6, r7, r8, lenMax, List.length_set, Nat.add_assoc, Int.reduceAdd, w1, getD3i, push_cast, Nat.reduceEqDiff, Nat.reduceBEq, Nat.reduceBNe, Nat.reduceAdd, Nat.reduceMul, Nat.reduceLT, Nat.reduceLeDiff, Nat.reduceSub, reduceCtorEq, Int.reduceToNat, ↓reduceIte]))
  all_goals first
    | omega
    | exact back_rd hrl bs _ _
    | (rw [List.map_append]; rfl)
    | exact ints_cl _ _ _ hx
    | exact chunk_ints _ _ (by simp)
    | (obtain ⟨y, _, rfl⟩ := List.mem_map.1 hx; rfl)
    | (obtain rfl : _ = _ := List.mem_singleton.1 hx; trivial)
    | trace_state
theorem l14Spoil4 (bs : List Int) (p : Int) (l : Leg) (r : Nat) (h : Hp) (hr : ob h r = .row (rdC bs p)) (hrl : r < h.length) (H : Rd bs (p + 20)) (hp0 : 0 ≤ p) (hl : LegP l) (e : pickV bs p 9 = 4) :
    Meets Try.prog 47 [.ptr r 0, l.d] h fun d' h' => d' = (spoilS bs p l).1.d ∧ h' = h.set r (.row (rdC bs (spoilS bs p l).2)) := by
  have hhi := H.hi
  have hc := hl.cap
  have h3 := hl.limits
  have hs3 := hl.sold
  have hb4 := hl.bids
  have hh6 := hl.holds
  obtain ⟨r1, r2, r3, r4, r5, r6, r7, r8, r9⟩ := rdf hrl
  have r4' := fun ls => (r4 ls).trans hr
  have v0 := pickV_range (p := p) (H.up (by omega) (by omega)) 9 (by omega)
  have v1 := pickV_range (p := p + 1) (H.up (by omega) (by omega)) 3 (by omega)
  have v2 := pickV_range (p := p + 1 + 1) (H.up (by omega) (by omega)) 12 (by omega)
  rw [spoilS, e]
  simp only [show ¬ ((4 : Int) = 0) by decide, show ¬ ((4 : Int) = 1) by decide, show ¬ ((4 : Int) = 2) by decide, show ¬ ((4 : Int) = 3) by decide, if_true, if_false]
  have w1 : IntKind.i64.wrap (pickV bs (p + 1 + 1) 12 - 1) = pickV bs (p + 1 + 1) 12 - 1 := wrap_id (by omega) (by omega)
  have his := fun v => int_splice l.limits (k := (pickV bs (p + 1) 3).toNat) (by omega) v
  refine meets_of [] mixed Try.func47 rfl (by kernel_rfl) (by kernel_rfl) (by rw [Try.ntmps47]; simp only [List.length_cons, List.length_nil]; omega) (fun hf => ?_)
  rw [Try.results47]
  clear hf
  try simp -implicitDefEqProofs only [e, Leg.bf, rp4, rp5, r1, r2, r5, r6, r7, r8, lenMax, List.length_set, Nat.add_assoc, Int.reduceAdd, w1, his, int_part, push_cast, Nat.reduceEqDiff, Nat.reduceBEq, Nat.reduceBNe, Nat.reduceAdd, Nat.reduceMul, Nat.reduceLT, Nat.reduceLeDiff, Nat.reduceSub, reduceCtorEq, Int.reduceToNat, ↓reduceIte]
  repeat'
    (first
     | (refine uYes ?_; first | exact List.mem_cons_self | (simp only [List.mem_cons, List.not_mem_nil, or_false, true_or, or_true]; done))
     | (refine uNo (by kernel_rfl))
     | (refine flatMk ?_; kernel_rfl)
     | (refine And.intro ?_ ?_)
     | (intro hx)
     | ((first
         | (refine callGF ?_)
         | (refine callQGF ?_)
         | (refine skipG ?_)
         | (refine inX_mk [r] (by kernel_rfl) (by simp; omega) ?_)
         | (refine callM (copyL l _) ?_)
         | (refine callM (dst := some 9) (pick_gives bs p _ r _ (r4' _) (by simp; omega) (H.up (by omega) (by omega))) ?_)
         | (refine callM (of_gives bs _ [[], [65], [108, 98]] .full r _ (r3 _ _) (by simp; omega) (H.up (by omega) (by omega)) (by simp)) ?_)
         | (refine callXR (r := r) (by simp) (by simp; omega) (fun h' hr' hl' => pick_gives bs _ _ r h' (hr'.trans (r3 _ _)) hl' (H.up (by omega) (by omega))) ?_)); simp -implicitDefEqProofs only [e, Leg.bf, rp4, rp5, r1, r2, r5, r6, r7, r8, lenMax, List.length_set, Nat.add_assoc, Int.reduceAdd, w1, his, int_part, push_cast, Nat.reduceEqDiff, Nat.reduceBEq, Nat.reduceBNe, Nat.reduceAdd, Nat.reduceMul, Nat.reduceLT, Nat.reduceLeDiff, Nat.reduceSub, reduceCtorEq, Int.reduceToNat, ↓reduceIte]))
  all_goals first
    | omega
    | exact back_rd hrl bs _ _
    | (rw [List.map_append]; rfl)
    | exact ints_cl _ _ _ hx
    | exact chunk_ints _ _ (by simp)
    | (obtain ⟨y, _, rfl⟩ := List.mem_map.1 hx; rfl)
    | (obtain rfl : _ = _ := List.mem_singleton.1 hx; trivial)
    | trace_state
theorem l14Spoil5 (bs : List Int) (p : Int) (l : Leg) (r : Nat) (h : Hp) (hr : ob h r = .row (rdC bs p)) (hrl : r < h.length) (H : Rd bs (p + 20)) (hp0 : 0 ≤ p) (hl : LegP l) (e : pickV bs p 9 = 5) :
    Meets Try.prog 47 [.ptr r 0, l.d] h fun d' h' => d' = (spoilS bs p l).1.d ∧ h' = h.set r (.row (rdC bs (spoilS bs p l).2)) := by
  have hhi := H.hi
  have hc := hl.cap
  have h3 := hl.limits
  have hs3 := hl.sold
  have hb4 := hl.bids
  have hh6 := hl.holds
  obtain ⟨r1, r2, r3, r4, r5, r6, r7, r8, r9⟩ := rdf hrl
  have r4' := fun ls => (r4 ls).trans hr
  have v0 := pickV_range (p := p) (H.up (by omega) (by omega)) 9 (by omega)
  have v1 := pickV_range (p := p + 1) (H.up (by omega) (by omega)) 3 (by omega)
  have v2 := pickV_range (p := p + 1 + 1) (H.up (by omega) (by omega)) 12 (by omega)
  rw [spoilS, e]
  simp only [show ¬ ((5 : Int) = 0) by decide, show ¬ ((5 : Int) = 1) by decide, show ¬ ((5 : Int) = 2) by decide, show ¬ ((5 : Int) = 3) by decide, show ¬ ((5 : Int) = 4) by decide, if_true, if_false]
  have w1 : IntKind.i64.wrap (pickV bs (p + 1 + 1) 12 - 1) = pickV bs (p + 1 + 1) 12 - 1 := wrap_id (by omega) (by omega)
  have his := fun v => int_splice l.sold (k := (pickV bs (p + 1) 3).toNat) (by omega) v
  refine meets_of [] mixed Try.func47 rfl (by kernel_rfl) (by kernel_rfl) (by rw [Try.ntmps47]; simp only [List.length_cons, List.length_nil]; omega) (fun hf => ?_)
  rw [Try.results47]
  clear hf
  try simp -implicitDefEqProofs only [e, Leg.bf, rp4, rp5, r1, r2, r5, r6, r7, r8, lenMax, List.length_set, Nat.add_assoc, Int.reduceAdd, w1, his, push_cast, Nat.reduceEqDiff, Nat.reduceBEq, Nat.reduceBNe, Nat.reduceAdd, Nat.reduceMul, Nat.reduceLT, Nat.reduceLeDiff, Nat.reduceSub, reduceCtorEq, Int.reduceToNat, ↓reduceIte]
  repeat'
    (first
     | (refine uYes ?_; first | exact List.mem_cons_self | (simp only [List.mem_cons, List.not_mem_nil, or_false, true_or, or_true]; done))
     | (refine uNo (by kernel_rfl))
     | (refine flatMk ?_; kernel_rfl)
     | (refine And.intro ?_ ?_)
     | (intro hx)
     | ((first
         | (refine callGF ?_)
         | (refine callQGF ?_)
         | (refine skipG ?_)
         | (refine inX_mk [r] (by kernel_rfl) (by simp; omega) ?_)
         | (refine callM (copyS l _) ?_)
         | (refine callM (dst := some 9) (pick_gives bs p _ r _ (r4' _) (by simp; omega) (H.up (by omega) (by omega))) ?_)
         | (refine callM (of_gives bs _ [[], [65], [108, 98]] .full r _ (r3 _ _) (by simp; omega) (H.up (by omega) (by omega)) (by simp)) ?_)
         | (refine callXR (r := r) (by simp) (by simp; omega) (fun h' hr' hl' => pick_gives bs _ _ r h' (hr'.trans (r3 _ _)) hl' (H.up (by omega) (by omega))) ?_)); simp -implicitDefEqProofs only [e, Leg.bf, rp4, rp5, r1, r2, r5, r6, r7, r8, lenMax, List.length_set, Nat.add_assoc, Int.reduceAdd, w1, his, push_cast, Nat.reduceEqDiff, Nat.reduceBEq, Nat.reduceBNe, Nat.reduceAdd, Nat.reduceMul, Nat.reduceLT, Nat.reduceLeDiff, Nat.reduceSub, reduceCtorEq, Int.reduceToNat, ↓reduceIte]))
  all_goals first
    | omega
    | exact back_rd hrl bs _ _
    | (rw [List.map_append]; rfl)
    | exact ints_cl _ _ _ hx
    | exact chunk_ints _ _ (by simp)
    | (obtain ⟨y, _, rfl⟩ := List.mem_map.1 hx; rfl)
    | (obtain rfl : _ = _ := List.mem_singleton.1 hx; trivial)
    | trace_state
theorem l14Spoil6 (bs : List Int) (p : Int) (l : Leg) (r : Nat) (h : Hp) (hr : ob h r = .row (rdC bs p)) (hrl : r < h.length) (H : Rd bs (p + 20)) (hp0 : 0 ≤ p) (hl : LegP l) (e : pickV bs p 9 = 6) :
    Meets Try.prog 47 [.ptr r 0, l.d] h fun d' h' => d' = (spoilS bs p l).1.d ∧ h' = h.set r (.row (rdC bs (spoilS bs p l).2)) := by
  have hhi := H.hi
  have hc := hl.cap
  have h3 := hl.limits
  have hs3 := hl.sold
  have hb4 := hl.bids
  have hh6 := hl.holds
  obtain ⟨r1, r2, r3, r4, r5, r6, r7, r8, r9⟩ := rdf hrl
  have r4' := fun ls => (r4 ls).trans hr
  have v0 := pickV_range (p := p) (H.up (by omega) (by omega)) 9 (by omega)
  have v1 := pickV_range (p := p + 1) (H.up (by omega) (by omega)) 3 (by omega)
  have v2 := pickV_range (p := p + 1 + 1) (H.up (by omega) (by omega)) 12 (by omega)
  rw [spoilS, e]
  simp only [show ¬ ((6 : Int) = 0) by decide, show ¬ ((6 : Int) = 1) by decide, show ¬ ((6 : Int) = 2) by decide, show ¬ ((6 : Int) = 3) by decide, show ¬ ((6 : Int) = 4) by decide, show ¬ ((6 : Int) = 5) by decide, if_true, if_false]
  have v5 := pickV_range (p := p + 1) (H.up (by omega) (by omega)) 2000 (by omega)
  have w1 : IntKind.i64.wrap (pickV bs (p + 1) 2000 - 1) = pickV bs (p + 1) 2000 - 1 := wrap_id (by omega) (by omega)
  refine meets_of [] mixed Try.func47 rfl (by kernel_rfl) (by kernel_rfl) (by rw [Try.ntmps47]; simp only [List.length_cons, List.length_nil]; omega) (fun hf => ?_)
  rw [Try.results47]
  clear hf
  try simp -implicitDefEqProofs only [e, Leg.bf, rp4, rp5, r1, r2, r5, r6, r7, r8, lenMax, List.length_set, Nat.add_assoc, Int.reduceAdd, w1, push_cast, Nat.reduceEqDiff, Nat.reduceBEq, Nat.reduceBNe, Nat.reduceAdd, Nat.reduceMul, Nat.reduceLT, Nat.reduceLeDiff, Nat.reduceSub, reduceCtorEq, Int.reduceToNat, ↓reduceIte]
  repeat'
    (first
     | (refine uYes ?_; first | exact List.mem_cons_self | (simp only [List.mem_cons, List.not_mem_nil, or_false, true_or, or_true]; done))
     | (refine uNo (by kernel_rfl))
     | (refine flatMk ?_; kernel_rfl)
     | (refine And.intro ?_ ?_)
     | (intro hx)
     | ((first
         | (refine callGF ?_)
         | (refine callQGF ?_)
         | (refine skipG ?_)
         | (refine inX_mk [r] (by kernel_rfl) (by simp; omega) ?_)
         | (refine callM (copyB l _) ?_)
         | (refine callM (dst := some 9) (pick_gives bs p _ r _ (r4' _) (by simp; omega) (H.up (by omega) (by omega))) ?_)
         | (refine callM (of_gives bs _ [[], [65], [108, 98]] .full r _ (r3 _ _) (by simp; omega) (H.up (by omega) (by omega)) (by simp)) ?_)
         | (refine callXR (r := r) (by simp) (by simp; omega) (fun h' hr' hl' => pick_gives bs _ _ r h' (hr'.trans (r3 _ _)) hl' (H.up (by omega) (by omega))) ?_)); simp -implicitDefEqProofs only [e, Leg.bf, rp4, rp5, r1, r2, r5, r6, r7, r8, lenMax, List.length_set, Nat.add_assoc, Int.reduceAdd, w1, push_cast, Nat.reduceEqDiff, Nat.reduceBEq, Nat.reduceBNe, Nat.reduceAdd, Nat.reduceMul, Nat.reduceLT, Nat.reduceLeDiff, Nat.reduceSub, reduceCtorEq, Int.reduceToNat, ↓reduceIte]))
  all_goals first
    | omega
    | exact back_rd hrl bs _ _
    | (rw [List.map_append]; rfl)
    | exact ints_cl _ _ _ hx
    | exact chunk_ints _ _ (by simp)
    | (obtain ⟨y, _, rfl⟩ := List.mem_map.1 hx; rfl)
    | (obtain rfl : _ = _ := List.mem_singleton.1 hx; trivial)
    | trace_state
theorem l14Spoil7 (bs : List Int) (p : Int) (l : Leg) (r : Nat) (h : Hp) (hr : ob h r = .row (rdC bs p)) (hrl : r < h.length) (H : Rd bs (p + 20)) (hp0 : 0 ≤ p) (hl : LegP l) (e : pickV bs p 9 = 7) :
    Meets Try.prog 47 [.ptr r 0, l.d] h fun d' h' => d' = (spoilS bs p l).1.d ∧ h' = h.set r (.row (rdC bs (spoilS bs p l).2)) := by
  have hhi := H.hi
  have hc := hl.cap
  have h3 := hl.limits
  have hs3 := hl.sold
  have hb4 := hl.bids
  have hh6 := hl.holds
  obtain ⟨r1, r2, r3, r4, r5, r6, r7, r8, r9⟩ := rdf hrl
  have r4' := fun ls => (r4 ls).trans hr
  have v0 := pickV_range (p := p) (H.up (by omega) (by omega)) 9 (by omega)
  have v1 := pickV_range (p := p + 1) (H.up (by omega) (by omega)) 3 (by omega)
  have v2 := pickV_range (p := p + 1 + 1) (H.up (by omega) (by omega)) 12 (by omega)
  rw [spoilS, e]
  simp only [show ¬ ((7 : Int) = 0) by decide, show ¬ ((7 : Int) = 1) by decide, show ¬ ((7 : Int) = 2) by decide, show ¬ ((7 : Int) = 3) by decide, show ¬ ((7 : Int) = 4) by decide, show ¬ ((7 : Int) = 5) by decide, show ¬ ((7 : Int) = 6) by decide, if_true, if_false]
  have v5 := pickV_range (p := p + 1 + 1 + 1) (H.up (by omega) (by omega)) 5 (by omega)
  have w1 : IntKind.i64.wrap (pickV bs (p + 1 + 1 + 1) 5 - 2) = pickV bs (p + 1 + 1 + 1) 5 - 2 := wrap_id (by omega) (by omega)
  refine meets_of [] mixed Try.func47 rfl (by kernel_rfl) (by kernel_rfl) (by rw [Try.ntmps47]; simp only [List.length_cons, List.length_nil]; omega) (fun hf => ?_)
  rw [Try.results47]
  clear hf
  try simp -implicitDefEqProofs only [e, Leg.bf, rp4, rp5, r1, r2, r5, r6, r7, r8, lenMax, List.length_set, Nat.add_assoc, Int.reduceAdd, w1, push_cast, Nat.reduceEqDiff, Nat.reduceBEq, Nat.reduceBNe, Nat.reduceAdd, Nat.reduceMul, Nat.reduceLT, Nat.reduceLeDiff, Nat.reduceSub, reduceCtorEq, Int.reduceToNat, ↓reduceIte]
  repeat'
    (first
     | (refine uYes ?_; first | exact List.mem_cons_self | (simp only [List.mem_cons, List.not_mem_nil, or_false, true_or, or_true]; done))
     | (refine uNo (by kernel_rfl))
     | (refine flatMk ?_; kernel_rfl)
     | (refine And.intro ?_ ?_)
     | (intro hx)
     | ((first
         | (refine callGF ?_)
         | (refine callQGF ?_)
         | (refine skipG ?_)
         | (refine inX_mk [r] (by kernel_rfl) (by simp; omega) ?_)
         | (refine callM (copyB l _) ?_)
         | (refine callM (dst := some 9) (pick_gives bs p _ r _ (r4' _) (by simp; omega) (H.up (by omega) (by omega))) ?_)
         | (refine callM (of_gives bs _ [[], [65], [108, 98]] .full r _ (r3 _ _) (by simp; omega) (H.up (by omega) (by omega)) (by simp)) ?_)
         | (refine callXR (r := r) (by simp) (by simp; omega) (fun h' hr' hl' => pick_gives bs _ _ r h' (hr'.trans (r3 _ _)) hl' (H.up (by omega) (by omega))) ?_)); simp -implicitDefEqProofs only [e, Leg.bf, rp4, rp5, r1, r2, r5, r6, r7, r8, lenMax, List.length_set, Nat.add_assoc, Int.reduceAdd, w1, push_cast, Nat.reduceEqDiff, Nat.reduceBEq, Nat.reduceBNe, Nat.reduceAdd, Nat.reduceMul, Nat.reduceLT, Nat.reduceLeDiff, Nat.reduceSub, reduceCtorEq, Int.reduceToNat, ↓reduceIte]))
  all_goals first
    | omega
    | exact back_rd hrl bs _ _
    | (rw [List.map_append]; rfl)
    | exact ints_cl _ _ _ hx
    | exact chunk_ints _ _ (by simp)
    | (obtain ⟨y, _, rfl⟩ := List.mem_map.1 hx; rfl)
    | (obtain rfl : _ = _ := List.mem_singleton.1 hx; trivial)
    | trace_state
theorem l14Spoil8 (bs : List Int) (p : Int) (l : Leg) (r : Nat) (h : Hp) (hr : ob h r = .row (rdC bs p)) (hrl : r < h.length) (H : Rd bs (p + 20)) (hp0 : 0 ≤ p) (hl : LegP l) (e : pickV bs p 9 = 8) :
    Meets Try.prog 47 [.ptr r 0, l.d] h fun d' h' => d' = (spoilS bs p l).1.d ∧ h' = h.set r (.row (rdC bs (spoilS bs p l).2)) := by
  have hhi := H.hi
  have hc := hl.cap
  have h3 := hl.limits
  have hs3 := hl.sold
  have hb4 := hl.bids
  have hh6 := hl.holds
  obtain ⟨r1, r2, r3, r4, r5, r6, r7, r8, r9⟩ := rdf hrl
  have r4' := fun ls => (r4 ls).trans hr
  have v0 := pickV_range (p := p) (H.up (by omega) (by omega)) 9 (by omega)
  have v1 := pickV_range (p := p + 1) (H.up (by omega) (by omega)) 3 (by omega)
  have v2 := pickV_range (p := p + 1 + 1) (H.up (by omega) (by omega)) 12 (by omega)
  rw [spoilS, e]
  simp only [show ¬ ((8 : Int) = 0) by decide, show ¬ ((8 : Int) = 1) by decide, show ¬ ((8 : Int) = 2) by decide, show ¬ ((8 : Int) = 3) by decide, show ¬ ((8 : Int) = 4) by decide, show ¬ ((8 : Int) = 5) by decide, show ¬ ((8 : Int) = 6) by decide, show ¬ ((8 : Int) = 7) by decide, if_false]
  refine meets_of [] mixed Try.func47 rfl (by kernel_rfl) (by kernel_rfl) (by rw [Try.ntmps47]; simp only [List.length_cons, List.length_nil]; omega) (fun hf => ?_)
  rw [Try.results47]
  clear hf
  try simp -implicitDefEqProofs only [e, Leg.bf, rp4, rp5, r1, r2, r5, r6, r7, r8, lenMax, List.length_set, Nat.add_assoc, Int.reduceAdd, push_cast, Nat.reduceEqDiff, Nat.reduceBEq, Nat.reduceBNe, Nat.reduceAdd, Nat.reduceMul, Nat.reduceLT, Nat.reduceLeDiff, Nat.reduceSub, reduceCtorEq, Int.reduceToNat, ↓reduceIte]
  repeat'
    (first
     | (refine uYes ?_; first | exact List.mem_cons_self | (simp only [List.mem_cons, List.not_mem_nil, or_false, true_or, or_true]; done))
     | (refine uNo (by kernel_rfl))
     | (refine flatMk ?_; kernel_rfl)
     | (refine And.intro ?_ ?_)
     | (intro hx)
     | ((first
         | (refine callGF ?_)
         | (refine callQGF ?_)
         | (refine skipG ?_)
         | (refine inX_mk [r] (by kernel_rfl) (by simp; omega) ?_)
         | (refine callM (copyB l _) ?_)
         | (refine callM (dst := some 9) (pick_gives bs p _ r _ (r4' _) (by simp; omega) (H.up (by omega) (by omega))) ?_)
         | (refine callM (of_gives bs _ [[], [65], [108, 98]] .full r _ (r3 _ _) (by simp; omega) (H.up (by omega) (by omega)) (by simp)) ?_)
         | (refine callXR (r := r) (by simp) (by simp; omega) (fun h' hr' hl' => pick_gives bs _ _ r h' (hr'.trans (r3 _ _)) hl' (H.up (by omega) (by omega))) ?_)); simp -implicitDefEqProofs only [e, Leg.bf, rp4, rp5, r1, r2, r5, r6, r7, r8, lenMax, List.length_set, Nat.add_assoc, Int.reduceAdd, push_cast, Nat.reduceEqDiff, Nat.reduceBEq, Nat.reduceBNe, Nat.reduceAdd, Nat.reduceMul, Nat.reduceLT, Nat.reduceLeDiff, Nat.reduceSub, reduceCtorEq, Int.reduceToNat, ↓reduceIte]))
  all_goals first
    | omega
    | exact back_rd hrl bs _ _
    | (rw [List.map_append]; rfl)
    | exact ints_cl _ _ _ hx
    | exact chunk_ints _ _ (by simp)
    | (obtain ⟨y, _, rfl⟩ := List.mem_map.1 hx; rfl)
    | (obtain rfl : _ = _ := List.mem_singleton.1 hx; trivial)
    | trace_state
theorem l14SpoilLeg_gives (bs : List Int) (p : Int) (l : Leg) (r : Nat) (h : Hp) (hr : ob h r = .row (rdC bs p)) (hrl : r < h.length) (H : Rd bs (p + 20)) (hp0 : 0 ≤ p) (hl : LegP l) :
    Meets Try.prog 47 [.ptr r 0, l.d] h fun d' h' => d' = (spoilS bs p l).1.d ∧ h' = h.set r (.row (rdC bs (spoilS bs p l).2)) := by
  have hhi := H.hi
  have v0 := pickV_range (p := p) (H.up (by omega) (by omega)) 9 (by omega)
  have hv : pickV bs p 9 = 0 ∨ pickV bs p 9 = 1 ∨ pickV bs p 9 = 2 ∨ pickV bs p 9 = 3 ∨ pickV bs p 9 = 4 ∨ pickV bs p 9 = 5 ∨ pickV bs p 9 = 6 ∨ pickV bs p 9 = 7 ∨ pickV bs p 9 = 8 := by omega
  rcases hv with e | e | e | e | e | e | e | e | e
  · exact l14Spoil0 bs p l r h hr hrl H hp0 hl e
  · exact l14Spoil1 bs p l r h hr hrl H hp0 hl e
  · exact l14Spoil2 bs p l r h hr hrl H hp0 hl e
  · exact l14Spoil3 bs p l r h hr hrl H hp0 hl e
  · exact l14Spoil4 bs p l r h hr hrl H hp0 hl e
  · exact l14Spoil5 bs p l r h hr hrl H hp0 hl e
  · exact l14Spoil6 bs p l r h hr hrl H hp0 hl e
  · exact l14Spoil7 bs p l r h hr hrl H hp0 hl e
  · exact l14Spoil8 bs p l r h hr hrl H hp0 hl e
end Go.Proofs.Ytcmpcpigchlhpaa

namespace Go.Proofs.Ytcmpcpigchlhpaa
set_option linter.unusedSectionVars false
open Go.Av
variable [Av.Start]
set_option maxRecDepth 10000
set_option maxHeartbeats 1000000
set_option linter.unusedSimpArgs false
set_option linter.unusedVariables false
attribute [local irreducible] finS

def anyS (bs : List Int) (p : Int) : Leg × Int := if pickV bs (soldS bs p).2 12 = 0 then spoilS bs ((soldS bs p).2 + 1) (soldS bs p).1 else ((soldS bs p).1, (soldS bs p).2 + 1)
omit [Av.Start] in
theorem spoilS_place (bs : List Int) (p : Int) (l : Leg) : p ≤ (spoilS bs p l).2 ∧ (spoilS bs p l).2 ≤ p + 4 := by
  rw [spoilS]
  repeat' split
  all_goals (simp only; omega)
theorem anyS_place {bs : List Int} {p : Int} (H : Rd bs (p + 300)) (hp0 : 0 ≤ p) : p ≤ (anyS bs p).2 ∧ (anyS bs p).2 ≤ p + 70 := by
  have hh := H.hi
  obtain ⟨a1, a2, a3⟩ := soldS_ok (H.up (p' := p + 200) (by omega) (by omega)) hp0
  have b := spoilS_place bs ((soldS bs p).2 + 1) (soldS bs p).1
  rw [anyS]
  split
  · omega
  · simp only; omega
def roomD (bs : List Int) : Leg × Int := ((anyS (bs.take 2000) 0).1, [pickV (bs.take 2000) (anyS (bs.take 2000) 0).2 3, -1, 3].getD ((pickV (bs.take 2000) ((anyS (bs.take 2000) 0).2 + 1) 12 * 3).tdiv 12).toNat 0)
omit [Av.Start] in
theorem rd_take {bs : List Int} (hb : ∀ x, x ∈ bs → 0 ≤ x ∧ x ≤ 255) (p : Int) (h0 : 0 ≤ p) (h1 : p ≤ 1000000000) : Rd (bs.take 2000) p := ⟨fun x hx => hb x (List.mem_of_mem_take hx), by rw [List.length_take]; omega, h0, h1⟩
end Go.Proofs.Ytcmpcpigchlhpaa

namespace Go.Proofs.Ytcmpcpigchlhpaa
set_option linter.unusedSectionVars false
open Go.Av
variable [Av.Start]
set_option maxRecDepth 10000
set_option maxHeartbeats 1000000
set_option linter.unusedSimpArgs false
set_option linter.unusedVariables false
attribute [local irreducible] finS

def keepD (bs : List Int) : Leg × Int :=
  ((anyS (bs.take 2000) 0).1,
    if (anyS (bs.take 2000) 0).1.holds.length = 0 then pickV (bs.take 2000) (anyS (bs.take 2000) 0).2 10
    else if pickV (bs.take 2000) (anyS (bs.take 2000) 0).2 3 = 0 then pickV (bs.take 2000) ((anyS (bs.take 2000) 0).2 + 1) 10
    else ((anyS (bs.take 2000) 0).1.holds.getD (pickV (bs.take 2000) ((anyS (bs.take 2000) 0).2 + 1) (anyS (bs.take 2000) 0).1.holds.length).toNat default).txn)
end Go.Proofs.Ytcmpcpigchlhpaa
