/- Contracts of functions of the program (Gu). -/
import Derived.Test.YtcmpcpigchlhpaaGe

namespace Go.Proofs.Ytcmpcpigchlhpaa
set_option linter.unusedSectionVars false
open Go.Av
variable [Av.Start]
set_option maxRecDepth 10000
set_option maxHeartbeats 1000000
set_option linter.unusedSimpArgs false
set_option linter.unusedVariables false

/-! The ways from a place to another one. -/
def legWays (dst src : List UInt8) (t : Int) (sub : List UInt8 → Int → List (List UInt8)) (l : Leg) : List (List UInt8) :=
  if l.src = src ∧ t ≤ l.dep then (if l.dst = dst then [l.name] else (sub l.dst (l.arr + 1)).map fun w => l.name ++ 45 :: w) else []
def waysV (net : List Leg) (dst : List UInt8) : Nat → List UInt8 → Int → List (List UInt8)
  | 0, _, _ => []
  | n + 1, src, t => net.flatMap (legWays dst src t (waysV net dst n))
omit [Av.Start] in
theorem flat_len {α β : Type} {f : α → List β} {m : Nat} : ∀ {xs : List α}, (∀ x, x ∈ xs → (f x).length ≤ m) → (xs.flatMap f).length ≤ xs.length * m
  | [], _ => by simp
  | x :: xs, h => by
    have h1 := h x List.mem_cons_self
    have h2 := flat_len (xs := xs) (fun y hy => h y (List.mem_cons_of_mem _ hy))
    rw [List.flatMap_cons, List.length_append, List.length_cons, Nat.succ_mul]
    omega
omit [Av.Start] in
theorem legWays_len {dst src : List UInt8} {t : Int} {sub : List UInt8 → Int → List (List UInt8)} {m : Nat} (hm : 1 ≤ m) (hs : ∀ a b, (sub a b).length ≤ m) (l : Leg) : (legWays dst src t sub l).length ≤ m := by
  rw [legWays]
  repeat' split
  · exact hm
  · rw [List.length_map]; exact hs _ _
  · exact Nat.zero_le _
omit [Av.Start] in
theorem waysV_len {net : List Leg} (hn : net.length ≤ 6) (dst : List UInt8) : ∀ (n : Nat) (src : List UInt8) (t : Int), (waysV net dst n src t).length ≤ 6 ^ n
  | 0, _, _ => Nat.zero_le _
  | n + 1, src, t => by
    have h := flat_len (f := legWays dst src t (waysV net dst n)) (m := 6 ^ n) (xs := net) (fun l _ => legWays_len (Nat.one_le_pow _ _ (by omega)) (waysV_len hn dst n) l)
    rw [waysV, Nat.pow_succ]
    have : net.length * 6 ^ n ≤ 6 * 6 ^ n := Nat.mul_le_mul_right _ hn
    omega
omit [Av.Start] in
theorem legWays_str {dst src : List UInt8} {t : Int} {sub : List UInt8 → Int → List (List UInt8)} {m : Nat} (hs : ∀ a b, ∀ w, w ∈ sub a b → w.length ≤ m) {l : Leg} (hl : l.name.length ≤ 8) : ∀ w, w ∈ legWays dst src t sub l → w.length ≤ m + 9 := by
  intro w hw
  rw [legWays] at hw
  split at hw
  · split at hw
    · rw [List.mem_singleton] at hw
      subst hw; omega
    · obtain ⟨u, hu, rfl⟩ := List.mem_map.1 hw
      have := hs _ _ u hu
      simp only [List.length_append, List.length_cons]
      omega
  · cases hw
omit [Av.Start] in
theorem waysV_str {net : List Leg} (hp : ∀ l, l ∈ net → l.name.length ≤ 8) (dst : List UInt8) : ∀ (n : Nat) (src : List UInt8) (t : Int) (w : List UInt8), w ∈ waysV net dst n src t → w.length ≤ 9 * n
  | 0, _, _, w, hw => by cases hw
  | n + 1, src, t, w, hw => by
    obtain ⟨l, hl, hw⟩ := List.mem_flatMap.1 hw
    have := legWays_str (m := 9 * n) (fun a b => waysV_str hp dst n a b) (hp l hl) w hw
    omega
omit [Av.Start] in
theorem flat_take_succ {α β : Type} (f : α → List β) (d : α) {xs : List α} {k : Nat} (hk : k < xs.length) : (xs.take (k + 1)).flatMap f = (xs.take k).flatMap f ++ f (xs.getD k d) := by
  rw [take_succ_getD xs d hk, List.flatMap_append, List.flatMap_cons, List.flatMap_nil, List.append_nil]
omit [Av.Start] in
theorem ways_later {net : List Leg} {dst : List UInt8} {t t' : Int} (ht : t ≤ t') : ∀ (n : Nat) (src : List UInt8) (w : List UInt8), w ∈ waysV net dst n src t' → w ∈ waysV net dst n src t
  | 0, _, _, hw => hw
  | n + 1, src, w, hw => by
    obtain ⟨l, hl, hw⟩ := List.mem_flatMap.1 hw
    refine List.mem_flatMap.2 ⟨l, hl, ?_⟩
    rw [legWays] at hw ⊢
    split at hw
    · rename_i h1
      rw [if_pos ⟨h1.1, by omega⟩]
      exact hw
    · cases hw
def findV (net : List Leg) (src dst : List UInt8) (t : Int) : List (List UInt8) := if netB net then waysV net dst 3 src t else []
omit [Av.Start] in
theorem netB_len {net : List Leg} (h : netB net = true) : net.length ≤ 6 := by
  rw [netB, Bool.and_eq_true, decide_eq_true_eq] at h
  omega
omit [Av.Start] in
theorem netB_legs {net : List Leg} (h : netB net = true) : ∀ l, l ∈ net → LegP l := by
  rw [netB, Bool.and_eq_true] at h
  refine (all_getD (d := default)).1 fun i hi => ?_
  have := allB_iff.1 h.1 i hi
  rw [netAt, Bool.and_eq_true] at this
  exact legP_of this.1
omit [Av.Start] in
theorem nameB_len {s : List UInt8} (h : nameB s = true) : 1 ≤ s.length ∧ s.length ≤ 8 := by
  rw [nameB, Bool.and_eq_true] at h
  have := inB_iff.1 h.2
  omega
/-- a way behind a way -/
def behind (way w : List UInt8) : List UInt8 := if way = [] then w else way ++ 45 :: w
end Go.Proofs.Ytcmpcpigchlhpaa
