/- Contracts of functions of the program (Go). -/
import Derived.Test.YtcmpcpigchlhpaaGu
import Derived.Test.YtcmpcpigchlhpaaGg
import Derived.Test.YtcmpcpigchlhpaaGe
import Derived.Test.YtcmpcpigchlhpaaEd
import Derived.Test.YtcmpcpigchlhpaaGk

namespace Go.Proofs.Ytcmpcpigchlhpaa
set_option linter.unusedSectionVars false
open Go.Av
variable [Av.Start]
set_option maxRecDepth 10000
set_option maxHeartbeats 1000000
set_option linter.unusedSimpArgs false
set_option linter.unusedVariables false

omit [Av.Start] in
theorem str_row (n : Nat) (xs : List (List UInt8)) : ∀ x, x ∈ [Ob.row (xs.map D.str)] → ObCl n x := by
  intro x hx
  rw [List.mem_singleton] at hx
  subst hx
  exact strs_cl xs n
omit [Av.Start] in
theorem leg_ob (n : Nat) (l : Leg) : ObCl n (.row l.cs) := l.cl n
end Go.Proofs.Ytcmpcpigchlhpaa

namespace Go.Proofs.Ytcmpcpigchlhpaa
set_option linter.unusedSectionVars false
open Go.Av
variable [Av.Start]
set_option maxRecDepth 10000
set_option maxHeartbeats 1000000
set_option linter.unusedSimpArgs false
set_option linter.unusedVariables false

omit [Av.Start] in
theorem behind_nil (w : List UInt8) : behind [] w = w := rfl
omit [Av.Start] in
theorem behind_ne {way : List UInt8} (h : way ≠ []) (w : List UInt8) : behind way w = way ++ 45 :: w := by rw [behind, if_neg h]
omit [Av.Start] in
theorem behind_behind {way nm : List UInt8} (h : nm ≠ []) (u : List UInt8) : behind (behind way nm) u = behind way (nm ++ 45 :: u) := by
  by_cases hw : way = []
  · subst hw
    rw [behind_nil, behind_nil, behind_ne h]
  · rw [behind_ne hw, behind_ne hw, behind_ne (by simp), List.append_assoc, List.cons_append]
end Go.Proofs.Ytcmpcpigchlhpaa

namespace Go.Proofs.Ytcmpcpigchlhpaa
set_option linter.unusedSectionVars false
open Go.Av
variable [Av.Start]
set_option maxRecDepth 10000
set_option maxHeartbeats 1000000
set_option linter.unusedSimpArgs false
set_option linter.unusedVariables false

omit [Av.Start] in
theorem findV_t {net : List Leg} (h : netB net = true) (src dst : List UInt8) (t : Int) : findV net src dst t = waysV net dst 3 src t := by rw [findV, h]; rfl
omit [Av.Start] in
theorem findV_f {net : List Leg} (h : netB net = false) (src dst : List UInt8) (t : Int) : findV net src dst t = [] := by rw [findV, h]; rfl
theorem gives_tok {P : Program} {f : FuncId} {args : List D} {h : Hp} {es : List D} {t : Tok} (H : Gives P f args h (.slice es t)) : Gives P f args h (.slice es .no) := by
  refine ⟨H.1, fun w σ vs hi hr => (H.2 w σ vs hi hr).mono ?_⟩
  rintro e w' ⟨v, he, d, h', σ', ⟨rfl, rfl⟩, hi', hd, hst⟩
  exact ⟨v, he, _, _, σ', ⟨rfl, rfl⟩, hi', hd.wk (.tok _ _), hst⟩
end Go.Proofs.Ytcmpcpigchlhpaa

namespace Go.Proofs.Ytcmpcpigchlhpaa
set_option linter.unusedSectionVars false
open Go.Av
variable [Av.Start]
set_option maxRecDepth 10000
set_option maxHeartbeats 1000000
set_option linter.unusedSimpArgs false
set_option linter.unusedVariables false
attribute [local irreducible] finS

def plN : List (List UInt8) := [[97, 109, 115], [98, 114, 117], [99, 100, 103], [100, 117, 98]]
def nmN : List (List UInt8) := [[108, 97], [108, 98], [108, 99], [108, 100], [108, 101], [108, 102]]
omit [Av.Start] in
theorem plN_ok : ∀ i : Nat, i < 4 → nameB (plN.getD i []) = true := by decide
omit [Av.Start] in
theorem nmN_ok : ∀ i : Nat, i < 6 → nameB (nmN.getD i []) = true := by decide
omit [Av.Start] in
theorem plN_ne : ∀ i : Nat, i < 4 → ∀ j : Nat, j < 4 → i ≠ j → plN.getD i [] ≠ plN.getD j [] := by decide
/-- a round of l14Net: the legs so far, the place, the time, and where the reader stands -/
abbrev NetS := List Leg × Int × Int × Int
def netTo (bs : List Int) (s : NetS) : Int := (s.2.1 + 1 + pickV bs (s.2.2.2 + 1) 3).tmod 4
def netLeg (bs : List Int) (s : NetS) : Leg × Int := legV bs (s.2.2.2 + 1 + 1) (nmN.getD s.1.length []) (plN.getD s.2.1.toNat []) (plN.getD (netTo bs s).toNat []) s.2.2.1
def netStep (bs : List Int) (s : NetS) : NetS :=
  if 0 < pickV bs (netLeg bs s).2 3 then (s.1 ++ [(netLeg bs s).1], netTo bs s, (netLeg bs s).1.arr + 1 + pickV bs ((netLeg bs s).2 + 1) 2, (netLeg bs s).2 + 1 + 1)
  else (s.1 ++ [(netLeg bs s).1], pickV bs ((netLeg bs s).2 + 1) 4, pickV bs ((netLeg bs s).2 + 1 + 1) 9, (netLeg bs s).2 + 1 + 1 + 1)
def netGo (bs : List Int) : Nat → NetS → List Leg × Int
  | 0, s => (s.1, s.2.2.2)
  | n + 1, s => if (s.1.length : Int) < 2 + pickV bs s.2.2.2 5 then netGo bs n (netStep bs s) else (s.1, s.2.2.2 + 1)
def netV (bs : List Int) (p : Int) : List Leg × Int := netGo bs 7 ([], pickV bs p 4, pickV bs (p + 1) 4, p + 1 + 1)
structure NetI (p : Int) (s : NetS) : Prop where
  len : s.1.length ≤ 6
  legs : ∀ l, l ∈ s.1 → LegP l
  at0 : 0 ≤ s.2.1 ∧ s.2.1 < 4
  time : 0 ≤ s.2.2.1 ∧ s.2.2.1 ≤ 10 + 10 * s.1.length
  place : p ≤ s.2.2.2 ∧ s.2.2.2 ≤ p + 2 + 30 * s.1.length
omit [Av.Start] in
theorem netTo_ok {bs : List Int} {p : Int} {s : NetS} (H : Rd bs (p + 300)) (hp0 : 0 ≤ p) (hI : NetI p s) : 0 ≤ netTo bs s ∧ netTo bs s < 4 ∧ netTo bs s ≠ s.2.1 := by
  have h1 := hI.len
  have h2 := hI.at0
  have h3 := hI.place
  have hh := H.hi
  have v := pickV_range (p := s.2.2.2 + 1) (H.up (by omega) (by omega)) 3 (by omega)
  rw [netTo, Int.tmod_eq_emod_of_nonneg (by omega)]
  omega
omit [Av.Start] in
theorem arr_le {bs : List Int} {p dep : Int} {nm src dst : List UInt8} (H : Rd bs (p + 100)) (hp0 : 0 ≤ p) : (legV bs p nm src dst dep).1.arr ≤ dep + 7 := by
  have hh := H.hi
  have v := pickV_range (p := p + 1) (H.up (by omega) (by omega)) 6 (by omega)
  show dep + 1 + pickV bs (p + 1) 6 ≤ dep + 7
  omega
omit [Av.Start] in
theorem netLeg_ok {bs : List Int} {p : Int} {s : NetS} (H : Rd bs (p + 300)) (hp0 : 0 ≤ p) (hI : NetI p s) (h5 : s.1.length < 6) :
    LegP (netLeg bs s).1 ∧ s.2.2.2 + 1 + 1 ≤ (netLeg bs s).2 ∧ (netLeg bs s).2 ≤ s.2.2.2 + 22 ∧ (netLeg bs s).1.arr ≤ s.2.2.1 + 7 := by
  have h1 := hI.len
  have h2 := hI.at0
  have h3 := hI.place
  have h4 := hI.time
  have hh := H.hi
  have ht := netTo_ok H hp0 hI
  have hk := legV_ok (bs := bs) (p := s.2.2.2 + 1 + 1) (dep := s.2.2.1) (H.up (by omega) (by omega)) (by omega) (nmN_ok _ h5) (plN_ok s.2.1.toNat (by omega)) (plN_ok (netTo bs s).toNat (by omega)) (plN_ne _ (by omega) _ (by omega) (by omega)) h4.1 (by omega)
  have ha := arr_le (bs := bs) (p := s.2.2.2 + 1 + 1) (dep := s.2.2.1) (nm := nmN.getD s.1.length []) (src := plN.getD s.2.1.toNat []) (dst := plN.getD (netTo bs s).toNat []) (H.up (by omega) (by omega)) (by omega)
  exact ⟨hk.1, hk.2.1, by have := hk.2.2; rw [netLeg]; omega, ha⟩
omit [Av.Start] in
theorem netStep_ok {bs : List Int} {p : Int} {s : NetS} (H : Rd bs (p + 300)) (hp0 : 0 ≤ p) (hI : NetI p s) (h5 : s.1.length < 6) : NetI p (netStep bs s) ∧ (netStep bs s).1.length = s.1.length + 1 := by
  have h2 := hI.at0
  have h3 := hI.place
  have h4 := hI.time
  have hh := H.hi
  have ht := netTo_ok H hp0 hI
  obtain ⟨k1, k2, k3, k4⟩ := netLeg_ok H hp0 hI h5
  have ka := k1.arr
  have kd := k1.dep
  have v1 := pickV_range (p := (netLeg bs s).2 + 1) (H.up (by omega) (by omega)) 2 (by omega)
  have v2 := pickV_range (p := (netLeg bs s).2 + 1) (H.up (by omega) (by omega)) 4 (by omega)
  have v3 := pickV_range (p := (netLeg bs s).2 + 1 + 1) (H.up (by omega) (by omega)) 9 (by omega)
  have hm : ∀ l, l ∈ s.1 ++ [(netLeg bs s).1] → LegP l := fun l hl => by
    rcases List.mem_append.1 hl with hl | hl
    · exact hI.legs l hl
    · rw [List.mem_singleton] at hl; rw [hl]; exact k1
  rw [netStep]
  split
  · refine ⟨⟨?_, hm, ⟨ht.1, ht.2.1⟩, ?_, ?_⟩, ?_⟩ <;> simp only [List.length_append, List.length_cons, List.length_nil] <;> omega
  · refine ⟨⟨?_, hm, v2, ?_, ?_⟩, ?_⟩ <;> simp only [List.length_append, List.length_cons, List.length_nil] <;> omega
theorem netGo_ok {bs : List Int} {p : Int} (H : Rd bs (p + 300)) (hp0 : 0 ≤ p) : ∀ (n : Nat) (s : NetS), NetI p s → s.1.length + n = 7 →
    (∀ l, l ∈ (netGo bs n s).1 → LegP l) ∧ (netGo bs n s).1.length ≤ 6 ∧ p ≤ (netGo bs n s).2 ∧ (netGo bs n s).2 ≤ p + 200 ∧ (s.1.length = 0 ∨ s.1.length = 1 ∨ 2 ≤ (netGo bs n s).1.length)
  | 0, s, hI, hn => by have := hI.len; omega
  | n + 1, s, hI, hn => by
    have h1 := hI.len
    have h3 := hI.place
    have hh := H.hi
    have v := pickV_range (p := s.2.2.2) (H.up (by omega) (by omega)) 5 (by omega)
    rw [netGo]
    split
    · rename_i hc
      obtain ⟨k1, k2⟩ := netStep_ok H hp0 hI (by omega)
      obtain ⟨a1, a2, a3, a4, a5⟩ := netGo_ok H hp0 n (netStep bs s) k1 (by omega)
      exact ⟨a1, a2, a3, a4, by omega⟩
    · rename_i hc
      exact ⟨hI.legs, by simp only; omega, by simp only; omega, by simp only; omega, by simp only; omega⟩
omit [Av.Start] in
theorem net0_ok {bs : List Int} {p : Int} (H : Rd bs (p + 300)) (hp0 : 0 ≤ p) : NetI p ([], pickV bs p 4, pickV bs (p + 1) 4, p + 1 + 1) := by
  have hh := H.hi
  have v1 := pickV_range (p := p) (H.up (by omega) (by omega)) 4 (by omega)
  have v2 := pickV_range (p := p + 1) (H.up (by omega) (by omega)) 4 (by omega)
  exact ⟨by simp, fun l hl => (nomatch hl), v1, by simp only [List.length_nil]; omega, by simp only [List.length_nil]; omega⟩
theorem netV_ok {bs : List Int} {p : Int} (H : Rd bs (p + 300)) (hp0 : 0 ≤ p) : (∀ l, l ∈ (netV bs p).1 → LegP l) ∧ (netV bs p).1.length ≤ 6 ∧ p ≤ (netV bs p).2 ∧ (netV bs p).2 ≤ p + 200 := by
  obtain ⟨a1, a2, a3, a4, _⟩ := netGo_ok H hp0 7 _ (net0_ok H hp0) (by simp)
  exact ⟨a1, a2, a3, a4⟩
omit [Av.Start] in
theorem legs_ren (xs : List Leg) (n k : Nat) : RenOb n k (.row (xs.flatMap Leg.cs)) (.row (xs.flatMap Leg.cs)) := .row _ _ rfl (fun j h1 h2 => by
  have := List.getElem_mem h1
  obtain ⟨l, _, hd⟩ := List.mem_flatMap.1 this
  generalize (xs.flatMap Leg.cs)[j] = d at hd
  simp only [Leg.cs, List.mem_cons, List.not_mem_nil, or_false] at hd
  rcases hd with e | e | e | e | e | e | e | e | e | e <;> subst e
  · exact .str _
  · exact .str _
  · exact .str _
  · exact .int _ _
  · exact .int _ _
  · exact .int _ _
  all_goals exact .slice _)
omit [Av.Start] in
theorem legs_cl (xs : List Leg) (n : Nat) : ∀ d, d ∈ xs.flatMap Leg.cs → Cl n d := fun d hd => by
  obtain ⟨l, _, hd⟩ := List.mem_flatMap.1 hd
  exact l.cl n d hd
omit [Av.Start] in
theorem legs_len (xs : List Leg) : (xs.flatMap Leg.cs).length = xs.length * 10 := by
  induction xs with
  | nil => rfl
  | cons l xs ih => rw [List.flatMap_cons, List.length_append, ih, List.length_cons]; simp only [Leg.cs, List.length_cons, List.length_nil]; omega
omit [Av.Start] in
theorem back_set_app {h : Hp} {r : Nat} (hrl : r < h.length) {cs : List D} (hc : ∀ d, d ∈ cs → Cl h.length d) (row : Ob) (hro : ObCl (h.length + 1) row) (junk : Hp) : Back h (h.set r (.row cs) ++ (row :: junk)) (h.set r (.row cs) ++ [row]) := by
  refine ⟨by simp, by simp, ?_, fun q x hx => ?_⟩
  · rw [show h.set r (.row cs) ++ (row :: junk) = (h.set r (.row cs) ++ [row]) ++ junk by simp, List.take_left]
  · by_cases hq : q < h.length
    · rw [List.getElem?_append_left (by simpa using hq)] at hx
      by_cases e : q = r
      · subst e
        rw [List.getElem?_set_self hq] at hx
        cases hx
        exact .inr fun d hd => (hc d hd).mono (by simp)
      · rw [List.getElem?_set_ne (fun e' => e e'.symm)] at hx
        exact .inl hx
    · rw [List.getElem?_append_right (by simp; omega)] at hx
      have := List.mem_of_getElem? hx
      rw [List.mem_singleton] at this
      subst this
      exact .inr (hro.mono' (by simp))
theorem l14Net_gives (bs : List Int) (p : Int) (r : Nat) (h : Hp) (hr : ob h r = .row (rdC bs p)) (hrl : r < h.length) (H : Rd bs (p + 300)) (hp0 : 0 ≤ p) :
    Meets Try.prog 45 [.ptr r 0] h fun d' h' => d' = .vec h.length true 10 0 (netV bs p).1.length (netV bs p).1.length ∧ h' = h.set r (.row (rdC bs (netV bs p).2)) ++ [.row ((netV bs p).1.flatMap Leg.cs)] := by
  have hhi := H.hi
  obtain ⟨r1, r2, r3, r4, r5, r6, r7, r8, r9⟩ := rdf hrl
  have r4' := fun ls => (r4 ls).trans hr
  have hN : netGo bs 7 ([], pickV bs p 4, pickV bs (p + 1) 4, p + 1 + 1) = netV bs p := rfl
  have h0 := net0_ok H hp0
  generalize netV bs p = V at hN
  refine meets_ofC [49, 1000014] mixed Try.func45 rfl (by kernel_rfl) (by kernel_rfl) (by rw [Try.ntmps45]; simp only [List.length_cons, List.length_nil]; omega) (fun hf hcl => ?_)
  rw [Try.results45]
  clear hf
  try simp -implicitDefEqProofs only [r1, r2, r5, r6, r7, r8, lenMax, List.length_set, List.set_set, push_cast, Nat.reduceEqDiff, Nat.reduceBEq, Nat.reduceBNe, Nat.reduceAdd, Nat.reduceMul, Nat.reduceLT, Nat.reduceLeDiff, Nat.reduceSub, reduceCtorEq, Int.reduceToNat, ↓reduceIte]
  repeat'
    (first
     | (refine uYes ?_; first | exact List.mem_cons_self | (simp only [List.mem_cons, List.not_mem_nil, or_false, true_or, or_true]; done))
     | (refine uNo (by kernel_rfl))
     | (refine flatMk ?_; kernel_rfl)
     | (refine And.intro ?_ ?_)
     | (intro hx)
     | ((first
         | (refine callGF ?_)
         | (refine callQGF ?_)
         | (refine skipG ?_)
         | (refine callM (dst := some 15) (pick_gives bs p _ r _ hr hrl (H.up (by omega) (by omega))) ?_)
         | (refine callM (dst := some 17) (pick_gives bs _ _ r _ (r9 _) (by simp; omega) (H.up (by omega) (by omega))) ?_)); simp -implicitDefEqProofs only [r1, r2, r5, r6, r7, r8, lenMax, List.length_set, List.set_set, push_cast, Nat.reduceEqDiff, Nat.reduceBEq, Nat.reduceBNe, Nat.reduceAdd, Nat.reduceMul, Nat.reduceLT, Nat.reduceLeDiff, Nat.reduceSub, reduceCtorEq, Int.reduceToNat, ↓reduceIte]))
  all_goals try omega
  refine ev_loopTV0 r [(5, true, 10)] (fun s : NetS => [(0, .ptr r 0), (3, .slice (plN.map .str) .no), (4, .slice (nmN.map .str) .no), (5, .vec h.length true 10 0 s.1.length s.1.length), (6, .int .i64 s.2.1), (7, .int .i64 s.2.2.1), (8, .int .i64 s.1.length)]) (fun s => rdC bs s.2.2.2)
    (fun s => [.row (s.1.flatMap Leg.cs)]) (fun s => NetI p s ∧ netGo bs (7 - s.1.length) s = V) (fun s => 7 - s.1.length) ([], pickV bs p 4, pickV bs (p + 1) 4, p + 1 + 1) ?_ ?_ ?_
  · exact ⟨h0, hN⟩
  · refine ⟨[.row []], ?_, ⟨⟨[.row []], ?_, Nat.le_refl _, rfl⟩, Nat.le_refl _, ?_, rdC_cl _ _ _, ?_⟩⟩
    · simp -implicitDefEqProofs only [Int.natCast_add, Int.cast_ofNat_Int, List.length_nil, Nat.le_refl, WeakTo, tokSts, tokOks, List.append_cancel_left_eq, exists_eq_left', exists_eq_left, List.append_cancel_left_eq, List.take_length, ObCl, and_true, true_and, push_cast, Nat.reduceEqDiff, Nat.reduceBEq, Nat.reduceBNe, Nat.reduceAdd, Nat.reduceMul, Nat.reduceLT, Nat.reduceLeDiff, Nat.reduceSub, reduceCtorEq, Int.reduceToNat, ↓reduceIte]
    · simp -implicitDefEqProofs only [Int.natCast_add, Int.cast_ofNat_Int, List.length_nil, Nat.le_refl, WeakTo, tokSts, tokOks, List.append_cancel_left_eq, exists_eq_left', exists_eq_left, List.append_cancel_left_eq, List.take_length, ObCl, and_true, true_and, push_cast, Nat.reduceEqDiff, Nat.reduceBEq, Nat.reduceBNe, Nat.reduceAdd, Nat.reduceMul, Nat.reduceLT, Nat.reduceLeDiff, Nat.reduceSub, reduceCtorEq, Int.reduceToNat, ↓reduceIte]
    · intro x hx
      rw [List.mem_singleton] at hx
      subst hx
      exact fun d hd => nomatch hd
    · simp -implicitDefEqProofs only [SlotsOk, plN, nmN, Int.natCast_add, Int.cast_ofNat_Int, List.length_nil, Nat.le_refl, WeakTo, tokSts, tokOks, List.append_cancel_left_eq, exists_eq_left', exists_eq_left, List.append_cancel_left_eq, List.take_length, ObCl, and_true, true_and, push_cast, Nat.reduceEqDiff, Nat.reduceBEq, Nat.reduceBNe, Nat.reduceAdd, Nat.reduceMul, Nat.reduceLT, Nat.reduceLeDiff, Nat.reduceSub, reduceCtorEq, Int.reduceToNat, ↓reduceIte]
      exact ⟨by omega, by simp⟩
  · rintro ⟨net, at0, time, q⟩ ⟨hI, hG⟩
    have k1 := hI.len
    have k2 := hI.at0
    have k3 := hI.place
    have k4 := hI.time
    simp only at k1 k2 k3 k4 hG
    have v1 := pickV_range (p := q) (H.up (by omega) (by omega)) 5 (by omega)
    have v2 := pickV_range (p := q + 1) (H.up (by omega) (by omega)) 3 (by omega)
    have w1 : IntKind.i64.wrap (2 + pickV bs q 5) = 2 + pickV bs q 5 := wrap_id (by omega) (by omega)
    rw [show 7 - net.length = (6 - net.length) + 1 by omega, netGo] at hG
    simp only at hG
    by_cases hc : (net.length : Int) < 2 + pickV bs q 5
    · rw [if_pos hc] at hG
      have hc' : decide ((net.length : Int) < 2 + pickV bs q 5) = true := decide_eq_true hc
      obtain ⟨n1, n2⟩ := netStep_ok H hp0 hI (by simp only; omega)
      obtain ⟨t1, t2, t3⟩ := netTo_ok H hp0 hI
      obtain ⟨g1, g2, g3, g4⟩ := netLeg_ok H hp0 hI (by simp only; omega)
      simp only at t1 t2 t3 n1 n2 g1 g2 g3 g4
      have hE : netLeg bs (net, at0, time, q) = legV bs (q + 1 + 1) (nmN.getD net.length []) (plN.getD at0.toNat []) (plN.getD (netTo bs (net, at0, time, q)).toNat []) time := rfl
      have hS : netStep bs (net, at0, time, q) = if 0 < pickV bs (netLeg bs (net, at0, time, q)).2 3 then (net ++ [(netLeg bs (net, at0, time, q)).1], netTo bs (net, at0, time, q), (netLeg bs (net, at0, time, q)).1.arr + 1 + pickV bs ((netLeg bs (net, at0, time, q)).2 + 1) 2, (netLeg bs (net, at0, time, q)).2 + 1 + 1)
        else (net ++ [(netLeg bs (net, at0, time, q)).1], pickV bs ((netLeg bs (net, at0, time, q)).2 + 1) 4, pickV bs ((netLeg bs (net, at0, time, q)).2 + 1 + 1) 9, (netLeg bs (net, at0, time, q)).2 + 1 + 1 + 1) := rfl
      have hTo : netTo bs (net, at0, time, q) = (at0 + 1 + pickV bs (q + 1) 3).tmod 4 := rfl
      generalize netTo bs (net, at0, time, q) = to at t1 t2 t3 hE hS hTo
      have hJ := fun g q1 q2 => l14Leg_gives bs (q + 1 + 1) (nmN.getD net.length []) (plN.getD at0.toNat []) (plN.getD to.toNat []) time r g q1 q2 (H.up (by omega) (by omega)) (by omega) (nmN_ok _ (by omega)) (plN_ok _ (by omega)) (plN_ok _ (by omega)) (plN_ne _ (by omega) _ (by omega) (by omega)) k4.1 (by omega)
      rw [← hE] at hJ
      generalize netLeg bs (net, at0, time, q) = X at g1 g2 g3 g4 hS hJ
      obtain ⟨l, u⟩ := X
      simp only at g1 g2 g3 g4 hS hJ
      have ka := g1.arr
      have kd := g1.dep
      have v3 := pickV_range (p := u) (H.up (by omega) (by omega)) 3 (by omega)
      have v4 := pickV_range (p := u + 1) (H.up (by omega) (by omega)) 2 (by omega)
      have w2 : IntKind.i64.wrap (at0 + 1) = at0 + 1 := wrap_id (by omega) (by omega)
      have w3 : IntKind.i64.wrap (at0 + 1 + pickV bs (q + 1) 3) = at0 + 1 + pickV bs (q + 1) 3 := wrap_id (by omega) (by omega)
      have w4 : IntKind.i64.wrap (l.arr + 1) = l.arr + 1 := wrap_id (by omega) (by omega)
      have w5 : IntKind.i64.wrap (l.arr + 1 + pickV bs (u + 1) 2) = l.arr + 1 + pickV bs (u + 1) 2 := wrap_id (by omega) (by omega)
      have w6 : IntKind.i64.wrap ((net.length : Int) + 1) = net.length + 1 := wrap_id (by omega) (by omega)
      have hfm : (net ++ [l]).flatMap Leg.cs = net.flatMap Leg.cs ++ l.cs := by rw [List.flatMap_append, List.flatMap_cons, List.flatMap_nil, List.append_nil]
      have hG2 : netGo bs (7 - (net.length + 1)) (netStep bs (net, at0, time, q)) = V := by rw [show 7 - (net.length + 1) = 6 - net.length by omega]; exact hG
      by_cases hz : 0 < pickV bs u 3
      · have hz' : decide (0 < pickV bs u 3) = true := decide_eq_true hz
        rw [if_pos hz] at hS
        rw [hS] at n1 n2 hG2
        try simp -implicitDefEqProofs only [hc', hz', w1, w2, w3, ← hTo, w4, w5, w6, r1, r2, r5, r6, r7, r8, lenMax, List.length_set, push_cast, Nat.reduceEqDiff, Nat.reduceBEq, Nat.reduceBNe, Nat.reduceAdd, Nat.reduceMul, Nat.reduceLT, Nat.reduceLeDiff, Nat.reduceSub, reduceCtorEq, Int.reduceToNat, ↓reduceIte]
        repeat'
          (first
           | (refine uYes ?_; first | exact List.mem_cons_self | (simp only [List.mem_cons, List.not_mem_nil, or_false, true_or, or_true]; done))
           | (refine uNo (by kernel_rfl))
           | (refine flatMk ?_; kernel_rfl)
           | (refine And.intro ?_ ?_)
           | (intro hx)
           | ((first
               | (refine callGF ?_)
               | (refine callQGF ?_)
               | (refine skipG ?_)
               | (refine inX_mkS [r] [h.length + 1] (by rfl) (by kernel_rfl) (by simp; omega) ?_)
               | (refine inX_mkU [r] [] (by kernel_rfl) (by simp; omega) ?_)
               | (refine callM (dst := some 20) (pick_gives bs _ _ r _ (r3 _ _) (by simp; omega) (H.up (by omega) (by omega))) ?_)
               | (refine callM (dst := some 28) (pick_gives bs _ _ r _ (r3 _ _) (by simp; omega) (H.up (by omega) (by omega))) ?_)
               | (refine callM (dst := some 51) (pick_gives bs _ _ r _ (r3 _ _) (by simp; omega) (H.up (by omega) (by omega))) ?_)
               | (refine callXR (dst := some 45) (r := r) (by simp) (by simp; omega) (fun h' hr' hl' => hJ h' (hr'.trans (r3 _ _)) hl') ?_)
               | (refine callXR (dst := some 58) (r := r) (by simp) (by simp; omega) (fun h' hr' hl' => pick_gives bs _ _ r h' (hr'.trans (r3 _ _)) hl' (H.up (by omega) (by omega))) ?_)); simp -implicitDefEqProofs only [hc', hz', w1, w2, w3, ← hTo, w4, w5, w6, r1, r2, r5, r6, r7, r8, lenMax, List.length_set, push_cast, Nat.reduceEqDiff, Nat.reduceBEq, Nat.reduceBNe, Nat.reduceAdd, Nat.reduceMul, Nat.reduceLT, Nat.reduceLeDiff, Nat.reduceSub, reduceCtorEq, Int.reduceToNat, ↓reduceIte]))
        all_goals first
          | omega
          | (simp only [nmN, plN, List.length_cons, List.length_nil]; omega)
          | exact .inr (by kernel_rfl)
          | exact legs_len net
          | skip
        refine round_mkTC (net ++ [l], to, l.arr + 1 + pickV bs (u + 1) 2, u + 1 + 1) ⟨n1, ?_⟩ ?_ [] [.dead, .row l.cs] [.row ((net ++ [l]).flatMap Leg.cs)] [.row ((net ++ [l]).flatMap Leg.cs)] ?_ rfl (Nat.le_refl _) hcl (rdC_cl _ _ _) (fun x hx => nomatch hx) rfl ?_ ?_
        · simp only [List.length_append, List.length_cons, List.length_nil]; exact hG2
        · simp only [List.length_append, List.length_cons, List.length_nil]; omega
        · rw [hfm]; rfl
        · intro j h1 h2
          match j, h2 with
          | 0, _ => exact legs_ren _ _ _
        · intro p hp
          simp only [List.mem_cons, List.not_mem_nil, or_false] at hp
          rcases hp with rfl | rfl | rfl | rfl | rfl | rfl | rfl <;> simp -implicitDefEqProofs only [push_cast, Nat.reduceEqDiff, Nat.reduceBEq, Nat.reduceBNe, Nat.reduceAdd, Nat.reduceMul, Nat.reduceLT, Nat.reduceLeDiff, Nat.reduceSub, reduceCtorEq, Int.reduceToNat, ↓reduceIte, List.length_append, List.length_cons, List.length_nil, Int.natCast_add]
          all_goals first
            | exact .refl _
            | exact rw_vec rfl (Nat.le_refl _) (Nat.le_refl _) (Nat.le_refl _)
            | exact rw_old (.refl _) hrl
            | exact rw_old (.refl _) (.ptr _ _ hrl)
            | trace_state
      · have hz' : decide (0 < pickV bs u 3) = false := decide_eq_false hz
        rw [if_neg hz] at hS
        rw [hS] at n1 n2 hG2
        try simp -implicitDefEqProofs only [hc', hz', w1, w2, w3, ← hTo, w4, w5, w6, r1, r2, r5, r6, r7, r8, lenMax, List.length_set, push_cast, Nat.reduceEqDiff, Nat.reduceBEq, Nat.reduceBNe, Nat.reduceAdd, Nat.reduceMul, Nat.reduceLT, Nat.reduceLeDiff, Nat.reduceSub, reduceCtorEq, Int.reduceToNat, ↓reduceIte]
        repeat'
          (first
           | (refine uYes ?_; first | exact List.mem_cons_self | (simp only [List.mem_cons, List.not_mem_nil, or_false, true_or, or_true]; done))
           | (refine uNo (by kernel_rfl))
           | (refine flatMk ?_; kernel_rfl)
           | (refine And.intro ?_ ?_)
           | (intro hx)
           | ((first
               | (refine callGF ?_)
               | (refine callQGF ?_)
               | (refine skipG ?_)
               | (refine inX_mkS [r] [h.length + 1] (by rfl) (by kernel_rfl) (by simp; omega) ?_)
               | (refine inX_mkU [r] [] (by kernel_rfl) (by simp; omega) ?_)
               | (refine callM (dst := some 20) (pick_gives bs _ _ r _ (r3 _ _) (by simp; omega) (H.up (by omega) (by omega))) ?_)
               | (refine callM (dst := some 28) (pick_gives bs _ _ r _ (r3 _ _) (by simp; omega) (H.up (by omega) (by omega))) ?_)
               | (refine callM (dst := some 51) (pick_gives bs _ _ r _ (r3 _ _) (by simp; omega) (H.up (by omega) (by omega))) ?_)
               | (refine callM (dst := some 61) (pick_gives bs _ _ r _ (r3 _ _) (by simp; omega) (H.up (by omega) (by omega))) ?_)
               | (refine callM (dst := some 63) (pick_gives bs _ _ r _ (r3 _ _) (by simp; omega) (H.up (by omega) (by omega))) ?_)
               | (refine callXR (dst := some 45) (r := r) (by simp) (by simp; omega) (fun h' hr' hl' => hJ h' (hr'.trans (r3 _ _)) hl') ?_)); simp -implicitDefEqProofs only [hc', hz', w1, w2, w3, ← hTo, w4, w5, w6, r1, r2, r5, r6, r7, r8, lenMax, List.length_set, push_cast, Nat.reduceEqDiff, Nat.reduceBEq, Nat.reduceBNe, Nat.reduceAdd, Nat.reduceMul, Nat.reduceLT, Nat.reduceLeDiff, Nat.reduceSub, reduceCtorEq, Int.reduceToNat, ↓reduceIte]))
        all_goals first
          | omega
          | (simp only [nmN, plN, List.length_cons, List.length_nil]; omega)
          | exact .inr (by kernel_rfl)
          | exact legs_len net
          | skip
        refine round_mkTC (net ++ [l], pickV bs (u + 1) 4, pickV bs (u + 1 + 1) 9, u + 1 + 1 + 1) ⟨n1, ?_⟩ ?_ [] [.dead, .row l.cs] [.row ((net ++ [l]).flatMap Leg.cs)] [.row ((net ++ [l]).flatMap Leg.cs)] ?_ rfl (Nat.le_refl _) hcl (rdC_cl _ _ _) (fun x hx => nomatch hx) rfl ?_ ?_
        · simp only [List.length_append, List.length_cons, List.length_nil]; exact hG2
        · simp only [List.length_append, List.length_cons, List.length_nil]; omega
        · rw [hfm]; rfl
        · intro j h1 h2
          match j, h2 with
          | 0, _ => exact legs_ren _ _ _
        · intro p hp
          simp only [List.mem_cons, List.not_mem_nil, or_false] at hp
          rcases hp with rfl | rfl | rfl | rfl | rfl | rfl | rfl <;> simp -implicitDefEqProofs only [push_cast, Nat.reduceEqDiff, Nat.reduceBEq, Nat.reduceBNe, Nat.reduceAdd, Nat.reduceMul, Nat.reduceLT, Nat.reduceLeDiff, Nat.reduceSub, reduceCtorEq, Int.reduceToNat, ↓reduceIte, List.length_append, List.length_cons, List.length_nil, Int.natCast_add]
          all_goals first
            | exact .refl _
            | exact rw_vec rfl (Nat.le_refl _) (Nat.le_refl _) (Nat.le_refl _)
            | exact rw_old (.refl _) hrl
            | exact rw_old (.refl _) (.ptr _ _ hrl)
            | trace_state
    · rw [if_neg hc] at hG
      subst hG
      have hc' : decide ((net.length : Int) < 2 + pickV bs q 5) = false := decide_eq_false hc
      try simp -implicitDefEqProofs only [hc', w1, r1, r2, r5, r6, r7, r8, lenMax, List.length_set, push_cast, Nat.reduceEqDiff, Nat.reduceBEq, Nat.reduceBNe, Nat.reduceAdd, Nat.reduceMul, Nat.reduceLT, Nat.reduceLeDiff, Nat.reduceSub, reduceCtorEq, Int.reduceToNat, ↓reduceIte]
      repeat'
        (first
         | (refine uYes ?_; first | exact List.mem_cons_self | (simp only [List.mem_cons, List.not_mem_nil, or_false, true_or, or_true]; done))
         | (refine uNo (by kernel_rfl))
         | (refine flatMk ?_; kernel_rfl)
         | (refine And.intro ?_ ?_)
         | (intro hx)
         | ((first
             | (refine callGF ?_)
             | (refine callQGF ?_)
             | (refine skipG ?_)
             | (refine callM (pick_gives bs _ _ r _ (r3 _ _) (by simp; omega) (H.up (by omega) (by omega))) ?_)
             | (refine callS (in_gives _ _ _ _) ?_)
             | (refine callQ (in_gives _ _ _ _) ?_)
             | (refine callG (fun hc => (in_gives _ _ _ _)) ?_)
             | (refine callQG (fun hc => (in_gives _ _ _ _)) ?_)); simp -implicitDefEqProofs only [hc', w1, r1, r2, r5, r6, r7, r8, lenMax, List.length_set, push_cast, Nat.reduceEqDiff, Nat.reduceBEq, Nat.reduceBNe, Nat.reduceAdd, Nat.reduceMul, Nat.reduceLT, Nat.reduceLeDiff, Nat.reduceSub, reduceCtorEq, Int.reduceToNat, ↓reduceIte]))
      all_goals first
        | omega
        | exact ⟨rfl, rfl⟩
        | rfl
        | exact ⟨by omega, by simp⟩
        | (refine back_set_app hrl ?_ _ ?_ []
           · exact rdC_cl _ _ _
           · exact legs_cl _ _)
        | trace_state
end Go.Proofs.Ytcmpcpigchlhpaa

namespace Go.Proofs.Ytcmpcpigchlhpaa
set_option linter.unusedSectionVars false
open Go.Av
variable [Av.Start]
set_option maxRecDepth 10000
set_option maxHeartbeats 1000000
set_option linter.unusedSimpArgs false
set_option linter.unusedVariables false

theorem netGo_len {bs : List Int} {p : Int} (H : Rd bs (p + 300)) (hp0 : 0 ≤ p) : ∀ (n : Nat) (s : NetS), NetI p s → s.1.length + n = 7 → 2 ≤ (netGo bs n s).1.length
  | 0, s, hI, hn => by have := hI.len; omega
  | n + 1, s, hI, hn => by
    have h1 := hI.len
    have h3 := hI.place
    have hh := H.hi
    have v := pickV_range (p := s.2.2.2) (H.up (by omega) (by omega)) 5 (by omega)
    rw [netGo]
    split
    · rename_i hc
      obtain ⟨k1, k2⟩ := netStep_ok H hp0 hI (by omega)
      exact netGo_len H hp0 n (netStep bs s) k1 (by omega)
    · rename_i hc
      simp only
      omega
theorem netV_len {bs : List Int} {p : Int} (H : Rd bs (p + 300)) (hp0 : 0 ≤ p) : 2 ≤ (netV bs p).1.length := netGo_len H hp0 7 _ (net0_ok H hp0) (by simp)
/-- the net that l14AnyNet makes, and the place behind -/
def anyN (bs : List Int) (p : Int) : List Leg × Int :=
  if pickV bs (netV bs p).2 12 = 0 then ((netV bs p).1.set (pickV bs ((netV bs p).2 + 1) (netV bs p).1.length).toNat (spoilS bs ((netV bs p).2 + 1 + 1) ((netV bs p).1.getD (pickV bs ((netV bs p).2 + 1) (netV bs p).1.length).toNat default)).1,
    (spoilS bs ((netV bs p).2 + 1 + 1) ((netV bs p).1.getD (pickV bs ((netV bs p).2 + 1) (netV bs p).1.length).toNat default)).2)
  else ((netV bs p).1, (netV bs p).2 + 1)
theorem anyN_place {bs : List Int} {p : Int} (H : Rd bs (p + 300)) (hp0 : 0 ≤ p) : p ≤ (anyN bs p).2 ∧ (anyN bs p).2 ≤ p + 210 := by
  obtain ⟨a1, a2, a3, a4⟩ := netV_ok H hp0
  have b := spoilS_place bs ((netV bs p).2 + 1 + 1) ((netV bs p).1.getD (pickV bs ((netV bs p).2 + 1) (netV bs p).1.length).toNat default)
  rw [anyN]
  split
  · simp only; omega
  · simp only; omega
omit [Av.Start] in
theorem leg_cs_len (l : Leg) : l.cs.length = 10 := rfl
omit [Av.Start] in
theorem legs_drop : ∀ (xs : List Leg) (k : Nat), (xs.flatMap Leg.cs).drop (k * 10) = (xs.drop k).flatMap Leg.cs
  | [], k => by simp
  | l :: xs, 0 => by simp
  | l :: xs, k + 1 => by
    rw [List.flatMap_cons, List.drop_succ_cons, ← legs_drop xs k, show (k + 1) * 10 = l.cs.length + k * 10 by rw [leg_cs_len]; omega, ← List.drop_drop, List.drop_left]
omit [Av.Start] in
theorem legs_take : ∀ (xs : List Leg) (k : Nat), (xs.flatMap Leg.cs).take (k * 10) = (xs.take k).flatMap Leg.cs
  | [], k => by simp
  | l :: xs, 0 => by simp
  | l :: xs, k + 1 => by
    rw [List.flatMap_cons, List.take_succ_cons, List.flatMap_cons, ← legs_take xs k, show (k + 1) * 10 = l.cs.length + k * 10 by rw [leg_cs_len]; omega, List.take_length_add_append]
omit [Av.Start] in
theorem legs_get {xs : List Leg} {k : Nat} (hk : k < xs.length) : ((xs.flatMap Leg.cs).drop (k * 10)).take 10 = (xs.getD k default).cs := by
  rw [legs_drop, List.drop_eq_getElem_cons hk, List.flatMap_cons, show (10 : Nat) = (xs[k].cs).length from rfl, List.take_left]
  rw [List.getD_eq_getElem?_getD, List.getElem?_eq_getElem hk]
  rfl
omit [Av.Start] in
theorem legs_set {xs : List Leg} {k : Nat} (hk : k < xs.length) (l : Leg) : (xs.flatMap Leg.cs).take (k * 10) ++ (l.cs ++ (xs.flatMap Leg.cs).drop (k * 10 + 10)) = (xs.set k l).flatMap Leg.cs := by
  rw [legs_take, show k * 10 + 10 = (k + 1) * 10 by omega, legs_drop, List.set_eq_take_append_cons_drop, if_pos hk, List.flatMap_append, List.flatMap_cons]
omit [Av.Start] in
theorem legs_chunk : ∀ (xs : List Leg) (n : Nat), n = xs.length → chunk true 10 n (xs.flatMap Leg.cs) = xs.map Leg.d
  | [], n, h => by subst h; rfl
  | x :: xs, n, h => by
    subst h
    have := legs_chunk xs _ rfl
    simp only [List.length_cons, chunk, if_true, List.map_cons]
    rw [List.flatMap_cons, show (10 : Nat) = x.cs.length from rfl, List.take_left, List.drop_left]
    exact congrArg _ this
omit [Av.Start] in
theorem fw_legs {n : Nat} {h : Hp} {r m cp : Nat} (hn : n ≤ r) {xs : List Leg} (ho : ob h r = .row (xs.flatMap Leg.cs)) (hm : m = xs.length) : FW n h (.vec r true 10 0 m cp) (.slice (xs.map Leg.d) .no) := by
  subst hm
  have hp : rowPart h r 10 0 xs.length = xs.flatMap Leg.cs := by
    rw [rowPart, ho]
    simp only [rowOf]
    rw [Nat.zero_mul, List.drop_zero, List.take_of_length_le (by rw [legs_len]; exact Nat.le_refl _)]
  rw [fw_vec, hp]
  exact ⟨⟨hn, by rw [ho]; trivial, by rw [ho]; simp only [rowOf, legs_len]; omega, legs_cl xs 0, by omega, fun e => nomatch e⟩, legs_chunk xs _ rfl⟩
omit [Av.Start] in
theorem legs_d_cl (xs : List Leg) (n : Nat) : Cl n (.slice (xs.map Leg.d) .no) := .slice _ _ (fun _ _ e => nomatch e)
theorem l14AnyNetR (bs : List Int) (p : Int) (r : Nat) (h : Hp) (hr : ob h r = .row (rdC bs p)) (hrl : r < h.length) (H : Rd bs (p + 300)) (hp0 : 0 ≤ p) :
    Meets Try.prog 20 [.ptr r 0] h fun d' h' => d' = .vec h.length true 10 0 (anyN bs p).1.length (anyN bs p).1.length ∧ h' = h.set r (.row (rdC bs (anyN bs p).2)) ++ [.row ((anyN bs p).1.flatMap Leg.cs)] := by
  have hhi := H.hi
  obtain ⟨r1, r2, r3, r4, r5, r6, r7, r8, r9⟩ := rdf hrl
  have r4' := fun ls => (r4 ls).trans hr
  obtain ⟨a1, a2, a3, a4⟩ := netV_ok H hp0
  have a5 := netV_len H hp0
  have hS := fun g q1 q2 => l14Net_gives bs p r g q1 q2 H hp0
  rw [anyN]
  generalize netV bs p = s at a1 a2 a3 a4 a5 hS
  obtain ⟨net, q⟩ := s
  simp only at a1 a2 a3 a4 a5 hS ⊢
  have vq := pickV_range (p := q) (H.up (by omega) (by omega)) 12 (by omega)
  have vk := pickV_range (p := q + 1) (H.up (by omega) (by omega)) net.length (by omega)
  by_cases hz : pickV bs q 12 = 0
  · simp only [hz, if_true]
    obtain ⟨k, hk⟩ : ∃ k : Nat, pickV bs (q + 1) net.length = k := ⟨_, (Int.toNat_of_nonneg vk.1).symm⟩
    rw [hk] at vk ⊢
    have hkl : k < net.length := by omega
    rw [Int.toNat_natCast]
    have hP := fun g q1 q2 => l14SpoilLeg_gives bs (q + 1 + 1) (net.getD k default) r g q1 q2 (H.up (by omega) (by omega)) (by omega) (by
      rw [List.getD_eq_getElem?_getD, List.getElem?_eq_getElem hkl]
      exact a1 _ (List.getElem_mem hkl))
    have hgt := legs_get hkl
    have hst := legs_set hkl
    generalize net.getD k default = lk at hP hgt
    generalize spoilS bs (q + 1 + 1) lk = t at hP
    obtain ⟨l', q'⟩ := t
    simp only at hP ⊢
    have hst := hst l'
    have hlen := legs_len net
    rw [List.length_set]
    refine meets_ofC [] mixed Try.func20 rfl (by kernel_rfl) (by kernel_rfl) (by rw [Try.ntmps20]; simp only [List.length_cons, List.length_nil]; omega) (fun hf hcl => ?_)
    rw [Try.results20]
    clear hf
    try simp -implicitDefEqProofs only [hz, hk, hgt, hst, hlen, r1, r2, r5, r6, r7, r8, lenMax, List.length_set, push_cast, Nat.reduceEqDiff, Nat.reduceBEq, Nat.reduceBNe, Nat.reduceAdd, Nat.reduceMul, Nat.reduceLT, Nat.reduceLeDiff, Nat.reduceSub, reduceCtorEq, Int.reduceToNat, ↓reduceIte]
    repeat'
      (first
       | (refine uYes ?_; first | exact List.mem_cons_self | (simp only [List.mem_cons, List.not_mem_nil, or_false, true_or, or_true]; done))
       | (refine uNo (by kernel_rfl))
       | (refine flatMk ?_; kernel_rfl)
       | (refine And.intro ?_ ?_)
       | (intro hx)
       | ((first
           | (refine callGF ?_)
           | (refine callQGF ?_)
           | (refine skipG ?_)
           | (refine callM (hS _ hr hrl) ?_)
           | (refine callM (dst := some 8) (pick_gives bs _ _ r _ (r3 _ _) (by simp; omega) (H.up (by omega) (by omega))) ?_)
           | (refine callM (dst := some 13) (pick_gives bs _ _ r _ (r3 _ _) (by simp; omega) (H.up (by omega) (by omega))) ?_)
           | (refine callM (dst := some 21) (hP _ (r3 _ _) (by simp; omega)) ?_)); simp -implicitDefEqProofs only [hz, hk, hgt, hst, hlen, r1, r2, r5, r6, r7, r8, lenMax, List.length_set, push_cast, Nat.reduceEqDiff, Nat.reduceBEq, Nat.reduceBNe, Nat.reduceAdd, Nat.reduceMul, Nat.reduceLT, Nat.reduceLeDiff, Nat.reduceSub, reduceCtorEq, Int.reduceToNat, ↓reduceIte]))
    all_goals first
      | omega
      | exact ⟨rfl, rfl⟩
      | (show Back h (h.set r (.row (rdC bs q')) ++ [.row ((net.flatMap Leg.cs).take (k * 10) ++ (l'.cs ++ (net.flatMap Leg.cs).drop (k * 10 + 10)))]) _
         rw [hst]
         refine back_set_app hrl ?_ _ ?_ []
         · exact rdC_cl _ _ _
         · exact legs_cl _ _)
      | trace_state
  · have hz' : decide (pickV bs q 12 = 0) = false := decide_eq_false hz
    simp only [hz, if_false]
    refine meets_ofC [] mixed Try.func20 rfl (by kernel_rfl) (by kernel_rfl) (by rw [Try.ntmps20]; simp only [List.length_cons, List.length_nil]; omega) (fun hf hcl => ?_)
    rw [Try.results20]
    clear hf
    try simp -implicitDefEqProofs only [hz', r1, r2, r5, r6, r7, r8, lenMax, List.length_set, push_cast, Nat.reduceEqDiff, Nat.reduceBEq, Nat.reduceBNe, Nat.reduceAdd, Nat.reduceMul, Nat.reduceLT, Nat.reduceLeDiff, Nat.reduceSub, reduceCtorEq, Int.reduceToNat, ↓reduceIte]
    repeat'
      (first
       | (refine uYes ?_; first | exact List.mem_cons_self | (simp only [List.mem_cons, List.not_mem_nil, or_false, true_or, or_true]; done))
       | (refine uNo (by kernel_rfl))
       | (refine flatMk ?_; kernel_rfl)
       | (refine And.intro ?_ ?_)
       | (intro hx)
       | ((first
           | (refine callGF ?_)
           | (refine callQGF ?_)
           | (refine skipG ?_)
           | (refine callM (hS _ hr hrl) ?_)
           | (refine callM (dst := some 8) (pick_gives bs _ _ r _ (r3 _ _) (by simp; omega) (H.up (by omega) (by omega))) ?_)); simp -implicitDefEqProofs only [hz', r1, r2, r5, r6, r7, r8, lenMax, List.length_set, push_cast, Nat.reduceEqDiff, Nat.reduceBEq, Nat.reduceBNe, Nat.reduceAdd, Nat.reduceMul, Nat.reduceLT, Nat.reduceLeDiff, Nat.reduceSub, reduceCtorEq, Int.reduceToNat, ↓reduceIte]))
    all_goals first
      | omega
      | exact ⟨rfl, rfl⟩
      | (refine back_set_app hrl ?_ _ ?_ []
         · exact rdC_cl _ _ _
         · exact legs_cl _ _)
      | trace_state
theorem l14AnyNet_gives (bs : List Int) (p : Int) (r : Nat) (h : Hp) (hr : ob h r = .row (rdC bs p)) (hrl : r < h.length) (H : Rd bs (p + 300)) (hp0 : 0 ≤ p) :
    Meets Try.prog 20 [.ptr r 0] h fun d' h' => d' = .slice ((anyN bs p).1.map Leg.d) .no ∧ h' = h.set r (.row (rdC bs (anyN bs p).2)) := by
  refine Meets.freezeAt (List.length_set ..) (fun q x hx => ?_) (l14AnyNetR bs p r h hr hrl H hp0) (fw_legs (by simp) ?_ rfl) (legs_d_cl _ _)
  · by_cases e : q = r
    · subst e
      rw [List.getElem?_set_self hrl] at hx
      cases hx
      exact .inr (rdC_cl _ _ _)
    · rw [List.getElem?_set_ne (fun e' => e e'.symm)] at hx
      exact .inl hx
  · have := ob_app0 (h.set r (.row (rdC bs (anyN bs p).2))) [.row ((anyN bs p).1.flatMap Leg.cs)]
    rw [List.length_set] at this
    exact this
def plX : List (List UInt8) := [[97, 109, 115], [98, 114, 117], [99, 100, 103], [100, 117, 98], [120, 121, 122]]
def findD (bs : List Int) : List Leg × List UInt8 × List UInt8 × Int :=
  ((anyN (bs.take 2000) 0).1, plN.getD (pickV (bs.take 2000) (anyN (bs.take 2000) 0).2 4).toNat [], plX.getD (pickV (bs.take 2000) ((anyN (bs.take 2000) 0).2 + 1) 5).toNat [], pickV (bs.take 2000) ((anyN (bs.take 2000) 0).2 + 1 + 1) 4)
theorem findD_at (bs : List Int) (hb : ∀ x, x ∈ bs → 0 ≤ x ∧ x ≤ 255) : 0 ≤ (findD bs).2.2.2 ∧ (findD bs).2.2.2 < 4 := by
  have hR := fun p h0 h1 => rd_take hb p h0 h1
  have hA := anyN_place (bs := bs.take 2000) (p := 0) (hR _ (by omega) (by omega)) (by omega)
  exact pickV_range (hR _ (by omega) (by omega)) 4 (by omega)
end Go.Proofs.Ytcmpcpigchlhpaa
