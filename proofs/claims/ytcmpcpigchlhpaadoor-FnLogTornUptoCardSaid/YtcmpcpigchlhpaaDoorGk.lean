/- Contracts of functions of the program (Gk). -/
import Derived.Test.YtcmpcpigchlhpaaDoorGj

namespace Go.Proofs.YtcmpcpigchlhpaaDoor
set_option linter.unusedSectionVars false
open Go.Av
variable [Av.Start]
set_option maxRecDepth 10000
set_option maxHeartbeats 1000000
set_option linter.unusedSimpArgs false
set_option linter.unusedVariables false
attribute [local irreducible] finS

/-- a copy of a leg, its slices' buffers in the objects behind k -/
def Leg.bf (l : Leg) (lim sold : D) (k : Nat) : List D := [.str l.name, .str l.src, .str l.dst, .int .i64 l.dep, .int .i64 l.arr, .int .i64 l.cap, lim, sold, .slice (l.bids.map (.int .i64)) (.buf (k + 4) 1), .slice (l.holds.map Hold.d) (.buf (k + 5) 3)]
omit [Av.Start] in
theorem Leg.bf_cl (l : Leg) {lim sold : D} {k n : Nat} (h1 : Cl n lim) (h2 : Cl n sold) (h : k + 5 < n) : ObCl n (.row (l.bf lim sold k)) := by
  intro d hd
  simp only [Leg.bf, List.mem_cons, List.not_mem_nil, or_false] at hd
  rcases hd with rfl | rfl | rfl | rfl | rfl | rfl | rfl | rfl | rfl | rfl
  · exact .str _
  · exact .str _
  · exact .str _
  · exact .int _ _
  · exact .int _ _
  · exact .int _ _
  · exact h1
  · exact h2
  · exact .slice _ _ (fun _ _ e => by cases e; omega)
  · exact .slice _ _ (fun _ _ e => by cases e; omega)
/-- the leg that l14SpoilLeg makes, and the place behind -/
def spoilS (bs : List Int) (p : Int) (l : Leg) : Leg × Int :=
  if pickV bs p 9 = 0 then ({ l with name := ([[], [65], [108, 98]] : List (List UInt8)).getD (pickV bs (p + 1) 3).toNat [] }, p + 1 + 1)
  else if pickV bs p 9 = 1 then ({ l with dst := l.src }, p + 1)
  else if pickV bs p 9 = 2 then ({ l with arr := l.dep }, p + 1)
  else if pickV bs p 9 = 3 then ({ l with cap := [0, 10, l.cap + 1].getD (pickV bs (p + 1) 3).toNat 0 }, p + 1 + 1)
  else if pickV bs p 9 = 4 then ({ l with limits := l.limits.set (pickV bs (p + 1) 3).toNat (pickV bs (p + 1 + 1) 12 - 1) }, p + 1 + 1 + 1)
  else if pickV bs p 9 = 5 then ({ l with sold := l.sold.set (pickV bs (p + 1) 3).toNat (pickV bs (p + 1 + 1) 12 - 1) }, p + 1 + 1 + 1)
  else if pickV bs p 9 = 6 then ({ l with bids := l.bids ++ [pickV bs (p + 1) 2000 - 1] }, p + 1 + 1)
  else if pickV bs p 9 = 7 then ({ l with holds := l.holds ++ [⟨pickV bs (p + 1) 9, pickV bs (p + 1 + 1) 4, pickV bs (p + 1 + 1 + 1) 5 - 2⟩] }, p + 1 + 1 + 1 + 1)
  else ({ l with limits := l.limits.drop 1 }, p + 1)
omit [Av.Start] in
theorem getD3i (a b c : Int) (i : Nat) : [D.int .i64 a, .int .i64 b, .int .i64 c].getD i (.int .i64 0) = .int .i64 ([a, b, c].getD i 0) := getD_map (D.int .i64) 0 [a, b, c] i
omit [Av.Start] in
theorem rp4 {h : Hp} {r n : Nat} (X a b c d : Ob) (xs : List Int) (tl : Hp) (hn : xs.length = n) : rowPart (h.set r X ++ a :: b :: c :: d :: .row (xs.map (.int .i64)) :: tl) (h.length + 4) 1 0 n = xs.map (.int .i64) := by
  have := rp_ints (h := h.set r X) (rows := a :: b :: c :: d :: .row (xs.map (.int .i64)) :: tl) (k := 4) (n := n) (xs := xs) rfl hn.symm
  rwa [List.length_set] at this
omit [Av.Start] in
theorem rp5 {h : Hp} {r n : Nat} (X a b c d e : Ob) (xs : List Int) (tl : Hp) (hn : xs.length = n) : rowPart (h.set r X ++ a :: b :: c :: d :: e :: .row (xs.map (.int .i64)) :: tl) (h.length + 5) 1 0 n = xs.map (.int .i64) := by
  have := rp_ints (h := h.set r X) (rows := a :: b :: c :: d :: e :: .row (xs.map (.int .i64)) :: tl) (k := 5) (n := n) (xs := xs) rfl hn.symm
  rwa [List.length_set] at this
end Go.Proofs.YtcmpcpigchlhpaaDoor

namespace Go.Proofs.YtcmpcpigchlhpaaDoor
set_option linter.unusedSectionVars false
open Go.Av
variable [Av.Start]
set_option maxRecDepth 10000
set_option maxHeartbeats 1000000
set_option linter.unusedSimpArgs false
set_option linter.unusedVariables false
attribute [local irreducible] finS

def anyS (bs : List Int) (p : Int) : Leg × Int := if pickV bs (soldS bs p).2 12 = 0 then spoilS bs ((soldS bs p).2 + 1) (soldS bs p).1 else ((soldS bs p).1, (soldS bs p).2 + 1)
omit [Av.Start] in
theorem spoilS_place (bs : List Int) (p : Int) (l : Leg) : p ≤ (spoilS bs p l).2 ∧ (spoilS bs p l).2 ≤ p + 4 := by
  rw [spoilS]
  repeat' split
  all_goals (simp only; omega)
theorem anyS_place {bs : List Int} {p : Int} (H : Rd bs (p + 300)) (hp0 : 0 ≤ p) : p ≤ (anyS bs p).2 ∧ (anyS bs p).2 ≤ p + 70 := by
  have hh := H.hi
  obtain ⟨a1, a2, a3⟩ := soldS_ok (H.up (p' := p + 200) (by omega) (by omega)) hp0
  have b := spoilS_place bs ((soldS bs p).2 + 1) (soldS bs p).1
  rw [anyS]
  split
  · omega
  · simp only; omega
def roomD (bs : List Int) : Leg × Int := ((anyS (bs.take 2000) 0).1, [pickV (bs.take 2000) (anyS (bs.take 2000) 0).2 3, -1, 3].getD ((pickV (bs.take 2000) ((anyS (bs.take 2000) 0).2 + 1) 12 * 3).tdiv 12).toNat 0)
omit [Av.Start] in
theorem rd_take {bs : List Int} (hb : ∀ x, x ∈ bs → 0 ≤ x ∧ x ≤ 255) (p : Int) (h0 : 0 ≤ p) (h1 : p ≤ 1000000000) : Rd (bs.take 2000) p := ⟨fun x hx => hb x (List.mem_of_mem_take hx), by rw [List.length_take]; omega, h0, h1⟩
end Go.Proofs.YtcmpcpigchlhpaaDoor

namespace Go.Proofs.YtcmpcpigchlhpaaDoor
set_option linter.unusedSectionVars false
open Go.Av
variable [Av.Start]
set_option maxRecDepth 10000
set_option maxHeartbeats 1000000
set_option linter.unusedSimpArgs false
set_option linter.unusedVariables false
attribute [local irreducible] finS

def keepD (bs : List Int) : Leg × Int :=
  ((anyS (bs.take 2000) 0).1,
    if (anyS (bs.take 2000) 0).1.holds.length = 0 then pickV (bs.take 2000) (anyS (bs.take 2000) 0).2 10
    else if pickV (bs.take 2000) (anyS (bs.take 2000) 0).2 3 = 0 then pickV (bs.take 2000) ((anyS (bs.take 2000) 0).2 + 1) 10
    else ((anyS (bs.take 2000) 0).1.holds.getD (pickV (bs.take 2000) ((anyS (bs.take 2000) 0).2 + 1) (anyS (bs.take 2000) 0).1.holds.length).toNat default).txn)
end Go.Proofs.YtcmpcpigchlhpaaDoor
