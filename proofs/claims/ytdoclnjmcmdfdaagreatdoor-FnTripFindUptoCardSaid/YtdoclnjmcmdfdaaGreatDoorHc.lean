/- The ways that are found: each can be made, each is found once. Plain law. -/
import Derived.Test.YtdoclnjmcmdfdaaGreatDoorGo
import Derived.Test.YtdoclnjmcmdfdaaGreatDoorGr
import Derived.Test.YtdoclnjmcmdfdaaGreatDoorGx

namespace Go.Proofs.YtdoclnjmcmdfdaaGreatDoor
set_option linter.unusedSectionVars false
open Go.Av
variable [Av.Start]
set_option maxRecDepth 10000
set_option maxHeartbeats 1000000
set_option linter.unusedSimpArgs false
set_option linter.unusedVariables false
set_option linter.unusedSectionVars false

/-- legs that go one behind the other, from a place at a time on to another place -/
def chain (net : List Leg) (dst : List UInt8) : List Leg → List UInt8 → Int → Prop
  | [], _, _ => False
  | l :: r, src, t => l ∈ net ∧ l.src = src ∧ t ≤ l.dep ∧ (r = [] ∨ chain net dst r l.dst (l.arr + 1))
theorem ways_chain {net : List Leg} {dst : List UInt8} : ∀ (n : Nat) (src : List UInt8) (t : Int) (w : List UInt8), w ∈ waysV net dst n src t → ∃ ls : List Leg, ls.length ≤ n ∧ chain net dst ls src t ∧ w = joinC 45 (ls.map Leg.name)
  | 0, _, _, w, hw => by cases hw
  | n + 1, src, t, w, hw => by
    obtain ⟨l, hl, hw⟩ := List.mem_flatMap.1 hw
    rw [legWays] at hw
    split at hw
    · rename_i h1
      split at hw
      · rw [List.mem_singleton] at hw
        exact ⟨[l], by simp, ⟨hl, h1.1, h1.2, .inl rfl⟩, by rw [hw]; rfl⟩
      · obtain ⟨u, hu, rfl⟩ := List.mem_map.1 hw
        obtain ⟨ls, a, b, rfl⟩ := ways_chain n l.dst (l.arr + 1) u hu
        refine ⟨l :: ls, by simp only [List.length_cons]; omega, ⟨hl, h1.1, h1.2, .inr b⟩, ?_⟩
        have hne : ls.map Leg.name ≠ [] := fun e => by
          rw [List.map_eq_nil_iff] at e
          rw [e] at b
          exact b
        rw [List.map_cons, joinC_cons 45 _ hne]
    · cases hw
theorem chain_mem {net : List Leg} {dst : List UInt8} : ∀ (ls : List Leg) (src : List UInt8) (t : Int), chain net dst ls src t → ∀ l, l ∈ ls → l ∈ net
  | [], _, _, h, _, _ => h.elim
  | x :: r, src, t, h, l, hl => by
    rcases List.mem_cons.1 hl with rfl | hl
    · exact h.1
    · rcases h.2.2.2 with rfl | h2
      · cases hl
      · exact chain_mem r _ _ h2 l hl
theorem chain_time {net : List Leg} {dst : List UInt8} (hp : ∀ l, l ∈ net → LegP l) : ∀ (ls : List Leg) (src : List UInt8) (t : Int), chain net dst ls src t → ∀ l, l ∈ ls → t ≤ l.dep
  | [], _, _, h, _, _ => h.elim
  | x :: r, src, t, h, l, hl => by
    have h3 := h.2.2.1
    have h4 := (hp x h.1).arr
    rcases List.mem_cons.1 hl with rfl | hl
    · exact h3
    · rcases h.2.2.2 with rfl | h2
      · cases hl
      · have := chain_time hp r _ _ h2 l hl
        omega
theorem chain_inc {net : List Leg} {dst : List UInt8} (hp : ∀ l, l ∈ net → LegP l) : ∀ (ls : List Leg) (src : List UInt8) (t : Int), chain net dst ls src t → ∀ i j, i < j → j < ls.length → (ls.getD i default).dep < (ls.getD j default).dep
  | [], _, _, h, _, _, _, _ => h.elim
  | x :: r, src, t, h, i, j, hij, hj => by
    have h4 := (hp x h.1).arr
    obtain ⟨j, rfl⟩ : ∃ k, j = k + 1 := ⟨j - 1, by omega⟩
    simp only [List.length_cons] at hj
    rcases h.2.2.2 with rfl | h2
    · simp only [List.length_nil] at hj; omega
    · cases i with
      | zero =>
        rw [List.getD_cons_zero, List.getD_cons_succ]
        have hm : r.getD j default ∈ r := by
          rw [List.getD_eq_getElem?_getD, List.getElem?_eq_getElem (by omega)]
          exact List.getElem_mem _
        have := chain_time hp r _ _ h2 _ hm
        omega
      | succ i =>
        rw [List.getD_cons_succ, List.getD_cons_succ]
        exact chain_inc hp r _ _ h2 i j (by omega) (by omega)
theorem chain_next {net : List Leg} {dst : List UInt8} : ∀ (ls : List Leg) (src : List UInt8) (t : Int), chain net dst ls src t → ∀ i, i + 1 < ls.length → nextB (ls.getD i default) (ls.getD (i + 1) default) = true
  | [], _, _, h, _, _ => h.elim
  | x :: r, src, t, h, i, hi => by
    simp only [List.length_cons] at hi
    rcases h.2.2.2 with rfl | h2
    · simp only [List.length_nil] at hi; omega
    · cases i with
      | zero =>
        rw [List.getD_cons_zero, List.getD_cons_succ]
        cases r with
        | nil => exact h2.elim
        | cons y r =>
          rw [List.getD_cons_zero, nextB, Bool.and_eq_true, decide_eq_true_eq, decide_eq_true_eq]
          have := h2.2.2.1
          exact ⟨h2.2.1.symm, by omega⟩
      | succ i =>
        rw [List.getD_cons_succ, List.getD_cons_succ]
        exact chain_next r _ _ h2 i (by omega)
/-- a leg of a net is found by its name -/
theorem net_idx {net : List Leg} (h : netB net = true) {l : Leg} (hl : l ∈ net) : 0 ≤ legIdx net l.name ∧ net.getD (legIdx net l.name).toNat default = l := by
  rw [netB, Bool.and_eq_true] at h
  obtain ⟨i, hi, rfl⟩ := List.getElem_of_mem hl
  have := allB_iff.1 h.1 i hi
  rw [netAt, Bool.and_eq_true, decide_eq_true_eq] at this
  have e : net.getD i default = net[i] := by rw [List.getD_eq_getElem?_getD, List.getElem?_eq_getElem hi]; rfl
  rw [e] at this
  rw [this.2, Int.toNat_natCast]
  exact ⟨Int.natCast_nonneg _, e⟩
theorem names_get (ls : List Leg) {i : Nat} (hi : i < ls.length) : (ls.map Leg.name).getD i [] = (ls.getD i default).name := by
  rw [List.getD_eq_getElem?_getD, List.getD_eq_getElem?_getD, List.getElem?_map, List.getElem?_eq_getElem hi]
  rfl
def anyT (ls : List Leg) : Trip := ⟨ls.map Leg.name, [97, 110, 121], 1⟩
theorem chain_fits {net : List Leg} {dst src : List UInt8} {t : Int} {ls : List Leg} (hb : netB net = true) (hc : chain net dst ls src t) (hl : ls.length ≤ 3) : formB (anyT ls) = true ∧ fitsB net (anyT ls) = true := by
  have hp := netB_legs hb
  have h1 : 1 ≤ ls.length := by
    cases ls with
    | nil => exact hc.elim
    | cons x r => simp
  have hmem := chain_mem ls src t hc
  have hg : ∀ i, i < ls.length → ls.getD i default ∈ ls := fun i hi => by
    rw [List.getD_eq_getElem?_getD, List.getElem?_eq_getElem hi]
    exact List.getElem_mem _
  have hf : formB (anyT ls) = true := by
    simp only [formB, anyT, Bool.and_eq_true, List.length_map]
    refine ⟨⟨⟨inB_iff.2 (by omega), allB_iff.2 fun i hi => ?_⟩, by decide⟩, by decide⟩
    rw [unlikeAt, Bool.and_eq_true, names_get ls hi]
    refine ⟨(hp _ (hmem _ (hg i hi))).name, ?_⟩
    rw [Bool.not_eq_true']
    cases e : hasB ((ls.map Leg.name).take i) (ls.getD i default).name with
    | false => rfl
    | true =>
      obtain ⟨j, hj, ej⟩ := (hasB_take (by rw [List.length_map]; omega)).1 e
      rw [names_get ls (by omega)] at ej
      have a1 := (net_idx hb (hmem _ (hg i hi))).2
      have a2 := (net_idx hb (hmem _ (hg j (by omega)))).2
      rw [ej, a1] at a2
      have := chain_inc hp ls src t hc j i hj hi
      rw [← a2] at this
      omega
  refine ⟨hf, ?_⟩
  rw [fitsB, hf, Bool.true_and, allB_iff]
  intro i hi
  have hi' : i < ls.length := by simpa [anyT] using hi
  have e1 : ∀ k, k < ls.length → tripIdx net (anyT ls) k = legIdx net (ls.getD k default).name := fun k hk => by rw [tripIdx, anyT]; simp only; rw [names_get ls hk]
  have e2 : ∀ k, k < ls.length → tripLeg net (anyT ls) k = ls.getD k default := fun k hk => by rw [tripLeg, e1 k hk]; exact (net_idx hb (hmem _ (hg k hk))).2
  rw [tripAt, e1 i hi', decide_eq_true (net_idx hb (hmem _ (hg i hi'))).1, Bool.true_and]
  by_cases hz : i = 0
  · rw [decide_eq_true hz]; rfl
  · rw [decide_eq_false hz, Bool.false_or, e2 i hi', e2 (i - 1) (by omega)]
    have := chain_next ls src t hc (i - 1) (by omega)
    rwa [show i - 1 + 1 = i by omega] at this
theorem name_no45 {s : List UInt8} (hn : nameB s = true) : (45 : UInt8) ∉ s ∧ (47 : UInt8) ∉ s := by
  have key : ∀ c : UInt8, c.toNat < 97 → c ∉ s := fun c hc hm => by
    rw [nameB, Bool.and_eq_true, allB_iff] at hn
    obtain ⟨i, hi, e⟩ := List.getElem_of_mem hm
    have := inB_iff.1 (hn.1 i hi)
    rw [List.getD_eq_getElem?_getD, List.getElem?_eq_getElem hi] at this
    simp only [Option.getD_some, e] at this
    omega
  exact ⟨key 45 (by decide), key 47 (by decide)⟩
theorem mem_joinC {b c : UInt8} : ∀ {ws : List (List UInt8)}, b ∈ joinC c ws → b = c ∨ ∃ w, w ∈ ws ∧ b ∈ w
  | [], h => by cases h
  | [w], h => .inr ⟨w, by simp, by simpa [joinC] using h⟩
  | w :: v :: ws, h => by
    rw [joinC_cons c w (by simp), List.mem_append, List.mem_cons] at h
    rcases h with h | h | h
    · exact .inr ⟨w, by simp, h⟩
    · exact .inl h
    · rcases mem_joinC h with h | ⟨x, hx, h⟩
      · exact .inl h
      · exact .inr ⟨x, List.mem_cons_of_mem _ hx, h⟩
theorem app45 {a b u v : List UInt8} (ha : (45 : UInt8) ∉ a) (hb : (45 : UInt8) ∉ b) (h : a ++ 45 :: u = b ++ 45 :: v) : a = b ∧ u = v := by
  have h1 := splitC_app u ha
  have h2 := splitC_app v hb
  rw [h, h2] at h1
  obtain ⟨rfl, _⟩ := List.cons.inj h1
  have := List.append_cancel_left h
  exact ⟨rfl, (List.cons.inj this).2⟩
theorem nodup_flat {α β : Type} {f : α → List β} : ∀ {xs : List α}, (∀ x, x ∈ xs → (f x).Nodup) → (xs.Pairwise fun x y => ∀ w, w ∈ f x → w ∉ f y) → (xs.flatMap f).Nodup
  | [], _, _ => by simp
  | x :: xs, h1, h2 => by
    rw [List.flatMap_cons, List.nodup_append]
    obtain ⟨a, b⟩ := List.pairwise_cons.1 h2
    refine ⟨h1 x List.mem_cons_self, nodup_flat (fun y hy => h1 y (List.mem_cons_of_mem _ hy)) b, fun w hw v hv e => ?_⟩
    subst e
    obtain ⟨y, hy, hv⟩ := List.mem_flatMap.1 hv
    exact a y hy w hw hv
theorem legWays_first {dst src : List UInt8} {t : Int} {sub : List UInt8 → Int → List (List UInt8)} {l : Leg} {w : List UInt8} (hw : w ∈ legWays dst src t sub l) : w = l.name ∨ ∃ u, w = l.name ++ 45 :: u := by
  rw [legWays] at hw
  split at hw
  · split at hw
    · exact .inl (List.mem_singleton.1 hw)
    · obtain ⟨u, _, rfl⟩ := List.mem_map.1 hw
      exact .inr ⟨u, rfl⟩
  · cases hw
/-- each way is found once -/
theorem ways_nodup {net : List Leg} (hb : netB net = true) (dst : List UInt8) : ∀ (n : Nat) (src : List UInt8) (t : Int), (waysV net dst n src t).Nodup
  | 0, _, _ => by simp [waysV]
  | n + 1, src, t => by
    have hp := netB_legs hb
    rw [waysV]
    refine nodup_flat (fun l hl => ?_) ?_
    · rw [legWays]
      split
      · split
        · simp
        · rw [List.Nodup, List.pairwise_map]
          exact (ways_nodup hb dst n l.dst (l.arr + 1)).imp (fun hab e => hab ((List.cons.inj (List.append_cancel_left e)).2))
      · simp
    · have hd : net.Pairwise fun x y => x.name ≠ y.name := by
        rw [List.pairwise_iff_getElem]
        intro i j hi hj hij e
        have h' := hb
        rw [netB, Bool.and_eq_true] at h'
        have a1 := allB_iff.1 h'.1 i hi
        have a2 := allB_iff.1 h'.1 j hj
        rw [netAt, Bool.and_eq_true, decide_eq_true_eq] at a1 a2
        have ei : net.getD i default = net[i] := by rw [List.getD_eq_getElem?_getD, List.getElem?_eq_getElem hi]; rfl
        have ej : net.getD j default = net[j] := by rw [List.getD_eq_getElem?_getD, List.getElem?_eq_getElem hj]; rfl
        rw [ei] at a1
        rw [ej] at a2
        have := a1.2
        rw [e, a2.2] at this
        omega
      refine List.Pairwise.imp_of_mem (fun {x y} hx hy hxy w hwx hwy => ?_) hd
      have n1 := (name_no45 (hp x hx).name).1
      have n2 := (name_no45 (hp y hy).name).1
      rcases legWays_first hwx with e1 | ⟨u, e1⟩
      · rcases legWays_first hwy with e2 | ⟨v, e2⟩
        · exact hxy (e1.symm.trans e2)
        · rw [e1] at e2
          exact n1 (by rw [e2]; simp)
      · rcases legWays_first hwy with e2 | ⟨v, e2⟩
        · rw [e2] at e1
          exact n2 (by rw [e1]; simp)
        · rw [e1] at e2
          exact hxy (app45 n1 n2 e2).1
/-- each single leg that goes from here to there is found -/
theorem ways_single {net : List Leg} {dst src : List UInt8} {t : Int} {l : Leg} (n : Nat) (hl : l ∈ net) (h1 : l.src = src) (h2 : l.dst = dst) (h3 : t ≤ l.dep) : l.name ∈ waysV net dst (n + 1) src t := by
  rw [waysV]
  refine List.mem_flatMap.2 ⟨l, hl, ?_⟩
  rw [legWays, if_pos ⟨h1, h3⟩, if_pos h2]
  exact List.mem_singleton.2 rfl
def tripT (t : Trip) : List UInt8 := if formB t = true then joinC 45 t.legs ++ 47 :: (t.fare ++ 47 :: Lib.itoa t.seats) else []
/-- a way, made a trip's text -/
theorem way_text {net : List Leg} {dst src : List UInt8} {t : Int} {w : List UInt8} (hb : netB net = true) (hw : w ∈ waysV net dst 3 src t) :
    ∃ T : Trip, splitC 47 (w ++ [47, 97, 110, 121, 47, 49]) = [w, [97, 110, 121], [49]] ∧ T = ⟨splitC 45 w, [97, 110, 121], 1⟩ ∧ tripT T = w ++ [47, 97, 110, 121, 47, 49] ∧ fitsB net T = true := by
  obtain ⟨ls, h1, h2, rfl⟩ := ways_chain 3 src t w hw
  obtain ⟨f1, f2⟩ := chain_fits hb h2 h1
  have hp := netB_legs hb
  have hmem := chain_mem ls src t h2
  have hne : ls.map Leg.name ≠ [] := fun e => by
    rw [List.map_eq_nil_iff] at e
    rw [e] at h2
    exact h2
  have hnn : ∀ s, s ∈ ls.map Leg.name → nameB s = true := fun s hs => by
    obtain ⟨l, hl, rfl⟩ := List.mem_map.1 hs
    exact (hp l (hmem l hl)).name
  have hs : splitC 45 (joinC 45 (ls.map Leg.name)) = ls.map Leg.name := split_join 45 _ hne fun s hs => (name_no45 (hnn s hs)).1
  have h47 : (47 : UInt8) ∉ joinC 45 (ls.map Leg.name) := fun hm => by
    rcases mem_joinC hm with e | ⟨s, hs, e⟩
    · exact absurd e (by decide)
    · exact (name_no45 (hnn s hs)).2 e
  refine ⟨anyT ls, ?_, by rw [hs]; rfl, ?_, f2⟩
  · rw [splitC_app _ h47]
    rfl
  · rw [tripT, if_pos f1]
    have : Lib.itoa 1 = [49] := by rw [Lib.itoa, if_neg (by omega), show (1 : Int).toNat = 1 from rfl, dec_small (by omega)]; rfl
    simp only [anyT, this, List.cons_append, List.nil_append]
end Go.Proofs.YtdoclnjmcmdfdaaGreatDoor

/- A trip written and read by the program; FnTripFind. -/
namespace Go.Proofs.YtdoclnjmcmdfdaaGreatDoor
set_option linter.unusedSectionVars false
open Go.Av
variable [Av.Start] [TabPow] [TabErr] [TabMax]
set_option maxRecDepth 10000
set_option maxHeartbeats 1000000
set_option linter.unusedSimpArgs false
set_option linter.unusedVariables false
attribute [local irreducible] finS

omit [Av.Start] [TabPow] [TabErr] [TabMax] in
theorem strs_c1' (xs : List (List UInt8)) : ∀ d, d ∈ xs.map D.str → cell1 d := by
  intro d hd
  obtain ⟨x, _, rfl⟩ := List.mem_map.1 hd
  trivial
omit [Av.Start] [TabPow] [TabErr] [TabMax] in
theorem flat_str' (xs : List (List UInt8)) : flat (xs.map D.str) = xs.map D.str := by
  rw [flat, List.flatMap_map]
  induction xs with
  | nil => rfl
  | cons x xs ih => rw [List.flatMap_cons, ih]; rfl
omit [TabPow] [TabErr] [TabMax] in
theorem sClone_gives (xs : List (List UInt8)) (h : Hp) : Gives Tryz.prog 65 [.slice (xs.map .str) .no] h (.slice (xs.map .str) .no) := by
  refine meets_of [] mixed Tryz.func65 rfl (by kernel_rfl) (by kernel_rfl) (by rw [Tryz.ntmps65]; simp only [List.length_cons, List.length_nil]; omega) (fun hf => ?_)
  rw [Tryz.results65]
  have hl : xs.length ≤ 1073741824 := by simpa using slice_fit (hf (.slice (xs.map .str) .no) (by simp))
  clear hf
  try simp -implicitDefEqProofs only [flat_str', push_cast, Nat.reduceEqDiff, Nat.reduceBEq, Nat.reduceBNe, Nat.reduceAdd, Nat.reduceMul, Nat.reduceLT, Nat.reduceLeDiff, Nat.reduceSub, reduceCtorEq, Int.reduceToNat, ↓reduceIte]
  repeat'
    (first
     | (refine uYes ?_; first | exact List.mem_cons_self | (simp only [List.mem_cons, List.not_mem_nil, or_false, true_or, or_true]; done))
     | (refine uNo (by kernel_rfl))
     | (refine flatMk ?_; kernel_rfl)
     | (refine And.intro ?_ ?_)
     | (intro hx)
     | ((first
         | (refine callGF ?_)
         | (refine callQGF ?_)
         | (refine skipG ?_)
         | (refine callS (in_gives ..) ?_)
         | (refine callQ (in_gives ..) ?_)
         | (refine callG (fun hc => (in_gives ..)) ?_)
         | (refine callQG (fun hc => (in_gives ..)) ?_)); simp -implicitDefEqProofs only [flat_str', push_cast, Nat.reduceEqDiff, Nat.reduceBEq, Nat.reduceBNe, Nat.reduceAdd, Nat.reduceMul, Nat.reduceLT, Nat.reduceLeDiff, Nat.reduceSub, reduceCtorEq, Int.reduceToNat, ↓reduceIte]))
  all_goals first
    | omega
    | (simp only [lenMax]; omega)
    | (have : xs = [] := List.eq_nil_of_length_eq_zero hx
       subst this
       rfl)
    | exact strs_c1' _ _ hx
    | trace_state
omit [TabPow] [TabErr] [TabMax] in
theorem sClip_gives (xs : List (List UInt8)) (h : Hp) : Gives Tryz.prog 60 [.slice (xs.map .str) .no] h (.slice (xs.map .str) .full) := by
  refine meets_of [] mixed Tryz.func60 rfl (by kernel_rfl) (by kernel_rfl) (by rw [Tryz.ntmps60]; simp only [List.length_cons, List.length_nil]; omega) (fun hf => ?_)
  rw [Tryz.results60]
  clear hf
  try simp -implicitDefEqProofs only [push_cast, Nat.reduceEqDiff, Nat.reduceBEq, Nat.reduceBNe, Nat.reduceAdd, Nat.reduceMul, Nat.reduceLT, Nat.reduceLeDiff, Nat.reduceSub, reduceCtorEq, Int.reduceToNat, ↓reduceIte]
  repeat'
    (first
     | (refine uYes ?_; first | exact List.mem_cons_self | (simp only [List.mem_cons, List.not_mem_nil, or_false, true_or, or_true]; done))
     | (refine uNo (by kernel_rfl))
     | (refine flatMk ?_; kernel_rfl)
     | (refine And.intro ?_ ?_)
     | (intro hx)
     | ((first
         | (refine callGF ?_)
         | (refine callQGF ?_)
         | (refine skipG ?_)
         | (refine callS (in_gives ..) ?_)
         | (refine callQ (in_gives ..) ?_)
         | (refine callG (fun hc => (in_gives ..)) ?_)
         | (refine callQG (fun hc => (in_gives ..)) ?_)); simp -implicitDefEqProofs only [push_cast, Nat.reduceEqDiff, Nat.reduceBEq, Nat.reduceBNe, Nat.reduceAdd, Nat.reduceMul, Nat.reduceLT, Nat.reduceLeDiff, Nat.reduceSub, reduceCtorEq, Int.reduceToNat, ↓reduceIte]))
  all_goals first
    | omega
    | trace_state
omit [TabPow] [TabErr] [TabMax] in
theorem sclone_gives (xs : List (List UInt8)) (h : Hp) : Gives Tryz.prog 33 [.slice (xs.map .str) .no] h (.slice (xs.map .str) .full) := by
  refine meets_of [] mixed Tryz.func33 rfl (by kernel_rfl) (by kernel_rfl) (by rw [Tryz.ntmps33]; simp only [List.length_cons, List.length_nil]; omega) (fun hf => ?_)
  rw [Tryz.results33]
  clear hf
  try simp -implicitDefEqProofs only [push_cast, Nat.reduceEqDiff, Nat.reduceBEq, Nat.reduceBNe, Nat.reduceAdd, Nat.reduceMul, Nat.reduceLT, Nat.reduceLeDiff, Nat.reduceSub, reduceCtorEq, Int.reduceToNat, ↓reduceIte]
  repeat'
    (first
     | (refine uYes ?_; first | exact List.mem_cons_self | (simp only [List.mem_cons, List.not_mem_nil, or_false, true_or, or_true]; done))
     | (refine uNo (by kernel_rfl))
     | (refine flatMk ?_; kernel_rfl)
     | (refine And.intro ?_ ?_)
     | (intro hx)
     | ((first
         | (refine callGF ?_)
         | (refine callQGF ?_)
         | (refine skipG ?_)
         | (refine callS (sClone_gives xs _) ?_)
         | (refine callQ (sClone_gives xs _) ?_)
         | (refine callG (fun hc => (sClone_gives xs _)) ?_)
         | (refine callQG (fun hc => (sClone_gives xs _)) ?_)
         | (refine callS (sClip_gives xs _) ?_)
         | (refine callQ (sClip_gives xs _) ?_)
         | (refine callG (fun hc => (sClip_gives xs _)) ?_)
         | (refine callQG (fun hc => (sClip_gives xs _)) ?_)); simp -implicitDefEqProofs only [push_cast, Nat.reduceEqDiff, Nat.reduceBEq, Nat.reduceBNe, Nat.reduceAdd, Nat.reduceMul, Nat.reduceLT, Nat.reduceLeDiff, Nat.reduceSub, reduceCtorEq, Int.reduceToNat, ↓reduceIte]))
  all_goals first
    | omega
    | trace_state
omit [Av.Start] [TabPow] [TabErr] [TabMax] in
theorem joinC_len (c : UInt8) (m : Nat) : ∀ (ws : List (List UInt8)), (∀ w, w ∈ ws → w.length ≤ m) → (joinC c ws).length ≤ (m + 1) * ws.length
  | [], _ => Nat.zero_le _
  | [w], h => by
    have := h w (by simp)
    simp only [joinC, List.length_cons, List.length_nil]
    omega
  | w :: v :: ws, h => by
    have h1 := h w (by simp)
    have h2 := joinC_len c m (v :: ws) (fun x hx => h x (List.mem_cons_of_mem _ hx))
    rw [joinC_cons c w (by simp)]
    simp only [List.length_append, List.length_cons, Nat.mul_add] at h2 ⊢
    omega
omit [TabPow] [TabErr] [TabMax] in
theorem form_len {t : Trip} (hf : formB t = true) : (joinC 45 t.legs).length ≤ 27 ∧ t.fare.length ≤ 8 ∧ 1 ≤ t.seats ∧ t.seats ≤ 4 := by
  simp only [formB, Bool.and_eq_true] at hf
  obtain ⟨⟨⟨h1, h2⟩, h3⟩, h4⟩ := hf
  have h1 := inB_iff.1 h1
  have h4 := inB_iff.1 h4
  have hn : ∀ w, w ∈ t.legs → w.length ≤ 8 := by
    refine (all_getD (d := ([] : List UInt8))).1 fun i hi => ?_
    have := allB_iff.1 h2 i hi
    rw [unlikeAt, Bool.and_eq_true] at this
    exact (nameB_len this.1).2
  have := joinC_len 45 8 t.legs hn
  exact ⟨by omega, (nameB_len h3).2, h4.1, h4.2⟩
theorem implTripWrite_gives (t : Trip) (h : Hp) : Gives Tryz.prog 34 [t.d] h (.str (tripT t)) := by
  rw [tripT]
  cases hf0 : formB t with
  | true =>
    obtain ⟨l1, l2, l3, l4⟩ := form_len hf0
    have hJ := fun g => join_gives t.legs [45] g (by rw [lib_join]; omega)
    have hI := fun g => itoa_gives t.seats g (by omega) (by omega)
    have h6 := Lib.itoa_length_le t.seats (by omega) (by omega)
    simp only [lib_join] at hJ
    refine meets_of [] mixed Tryz.func34 rfl (by kernel_rfl) (by kernel_rfl) (by rw [Tryz.ntmps34]; simp only [List.length_cons, List.length_nil]; omega) (fun hf => ?_)
    rw [Tryz.results34]
    clear hf
    try simp -implicitDefEqProofs only [hf0, lenMax, push_cast, Nat.reduceEqDiff, Nat.reduceBEq, Nat.reduceBNe, Nat.reduceAdd, Nat.reduceMul, Nat.reduceLT, Nat.reduceLeDiff, Nat.reduceSub, reduceCtorEq, Int.reduceToNat, ↓reduceIte]
    repeat'
      (first
       | (refine uYes ?_; first | exact List.mem_cons_self | (simp only [List.mem_cons, List.not_mem_nil, or_false, true_or, or_true]; done))
       | (refine uNo (by kernel_rfl))
       | (refine flatMk ?_; kernel_rfl)
       | (refine And.intro ?_ ?_)
       | (intro hx)
       | ((first
           | (refine callGF ?_)
           | (refine callQGF ?_)
           | (refine skipG ?_)
           | (refine callS (formed_gives t _) ?_)
           | (refine callQ (formed_gives t _) ?_)
           | (refine callG (fun hc => (formed_gives t _)) ?_)
           | (refine callQG (fun hc => (formed_gives t _)) ?_)
           | (refine callS (hJ _) ?_)
           | (refine callQ (hJ _) ?_)
           | (refine callG (fun hc => (hJ _)) ?_)
           | (refine callQG (fun hc => (hJ _)) ?_)
           | (refine callS (hI _) ?_)
           | (refine callQ (hI _) ?_)
           | (refine callG (fun hc => (hI _)) ?_)
           | (refine callQG (fun hc => (hI _)) ?_)); simp -implicitDefEqProofs only [hf0, lenMax, push_cast, Nat.reduceEqDiff, Nat.reduceBEq, Nat.reduceBNe, Nat.reduceAdd, Nat.reduceMul, Nat.reduceLT, Nat.reduceLeDiff, Nat.reduceSub, reduceCtorEq, Int.reduceToNat, ↓reduceIte]))
    all_goals first
      | omega
      | rfl
      | trace_state
  | false =>
    refine meets_of [] mixed Tryz.func34 rfl (by kernel_rfl) (by kernel_rfl) (by rw [Tryz.ntmps34]; simp only [List.length_cons, List.length_nil]; omega) (fun hf => ?_)
    rw [Tryz.results34]
    clear hf
    try simp -implicitDefEqProofs only [hf0, lenMax, push_cast, Nat.reduceEqDiff, Nat.reduceBEq, Nat.reduceBNe, Nat.reduceAdd, Nat.reduceMul, Nat.reduceLT, Nat.reduceLeDiff, Nat.reduceSub, reduceCtorEq, Int.reduceToNat, ↓reduceIte]
    repeat'
      (first
       | (refine uYes ?_; first | exact List.mem_cons_self | (simp only [List.mem_cons, List.not_mem_nil, or_false, true_or, or_true]; done))
       | (refine uNo (by kernel_rfl))
       | (refine flatMk ?_; kernel_rfl)
       | (refine And.intro ?_ ?_)
       | (intro hx)
       | ((first
           | (refine callGF ?_)
           | (refine callQGF ?_)
           | (refine skipG ?_)
           | (refine callS (formed_gives t _) ?_)
           | (refine callQ (formed_gives t _) ?_)
           | (refine callG (fun hc => (formed_gives t _)) ?_)
           | (refine callQG (fun hc => (formed_gives t _)) ?_)
           | (refine callS (in_gives _ _ _ _) ?_)
           | (refine callQ (in_gives _ _ _ _) ?_)
           | (refine callG (fun hc => (in_gives _ _ _ _)) ?_)
           | (refine callQG (fun hc => (in_gives _ _ _ _)) ?_)); simp -implicitDefEqProofs only [hf0, lenMax, push_cast, Nat.reduceEqDiff, Nat.reduceBEq, Nat.reduceBNe, Nat.reduceAdd, Nat.reduceMul, Nat.reduceLT, Nat.reduceLeDiff, Nat.reduceSub, reduceCtorEq, Int.reduceToNat, ↓reduceIte]))
    all_goals first
      | rfl
      | trace_state
theorem implTripRead_good (s p0 p1 p2 : List UInt8) (T : Trip) (h : Hp) (hs : s.length ≤ 10000000) (h1 : splitC 47 s = [p0, p1, p2]) (h2 : numV p2 = (T.seats, true)) (hT : T = ⟨splitC 45 p0, p1, T.seats⟩) (hw : tripT T = s) : Gives Tryz.prog 11 [.str s] h (.tup [T.d, .bool true]) := by
  have hC := fun g => split_gives s 47 g hs
  have hmem := (splitC_le 47 s).2
  rw [h1] at hC hmem
  have hD := fun g => split_gives p0 45 g (by have := hmem p0 (by simp); omega)
  have hN := number_gives p2
  rw [h2] at hN
  have hW := implTripWrite_gives T
  rw [hw] at hW
  obtain ⟨a, b, c⟩ := T
  simp only at hT hN
  obtain ⟨rfl, rfl, _⟩ := Trip.mk.inj hT
  have hK := sclone_gives (splitC 45 p0)
  have hWf := fun g => gives_wk' (ys := [.agg [.slice ((splitC 45 p0).map .str) .full, .str b, .int .i64 c]]) (hW g) ⟨.agg _ _ rfl (fun k k1 k2 => by
    match k, k1 with
    | 0, _ => exact .tok _ _
    | 1, _ => exact .refl _
    | 2, _ => exact .refl _), trivial⟩
  refine meets_of [] mixed Tryz.func11 rfl (by kernel_rfl) (by kernel_rfl) (by rw [Tryz.ntmps11]; simp only [List.length_cons, List.length_nil]; omega) (fun hf => ?_)
  rw [Tryz.results11]
  clear hf
  try simp -implicitDefEqProofs only [lenMax, push_cast, Nat.reduceEqDiff, Nat.reduceBEq, Nat.reduceBNe, Nat.reduceAdd, Nat.reduceMul, Nat.reduceLT, Nat.reduceLeDiff, Nat.reduceSub, reduceCtorEq, Int.reduceToNat, ↓reduceIte]
  repeat'
    (first
     | (refine uYes ?_; first | exact List.mem_cons_self | (simp only [List.mem_cons, List.not_mem_nil, or_false, true_or, or_true]; done))
     | (refine uNo (by kernel_rfl))
     | (refine flatMk ?_; kernel_rfl)
     | (refine And.intro ?_ ?_)
     | (intro hx)
     | ((first
         | (refine callGF ?_)
         | (refine callQGF ?_)
         | (refine skipG ?_)
         | (refine callS (hC _) ?_)
         | (refine callQ (hC _) ?_)
         | (refine callG (fun hc => (hC _)) ?_)
         | (refine callQG (fun hc => (hC _)) ?_)
         | (refine inX_mkP [] (by kernel_rfl) (by simp) ?_)
         | (refine callXG (dst := some 24) (fun g => hD g) ?_)
         | (refine callXG (dst := some 25) (fun g => hK g) ?_)
         | (refine callS (hN _) ?_)
         | (refine callQ (hN _) ?_)
         | (refine callG (fun hc => (hN _)) ?_)
         | (refine callQG (fun hc => (hN _)) ?_)
         | (refine callS (hWf _) ?_)
         | (refine callQ (hWf _) ?_)
         | (refine callG (fun hc => (hWf _)) ?_)
         | (refine callQG (fun hc => (hWf _)) ?_)); simp -implicitDefEqProofs only [lenMax, push_cast, Nat.reduceEqDiff, Nat.reduceBEq, Nat.reduceBNe, Nat.reduceAdd, Nat.reduceMul, Nat.reduceLT, Nat.reduceLeDiff, Nat.reduceSub, reduceCtorEq, Int.reduceToNat, ↓reduceIte]))
  all_goals first
    | omega
    | rfl
    | trace_state
end Go.Proofs.YtdoclnjmcmdfdaaGreatDoor

/- FnTripFind holds of all drawn nets. -/
namespace Go.Proofs.YtdoclnjmcmdfdaaGreatDoor
set_option linter.unusedSectionVars false
open Go.Av
variable [Av.Start] [TabPow] [TabErr] [TabMax]
set_option maxRecDepth 10000
set_option maxHeartbeats 1000000
set_option linter.unusedSimpArgs false
set_option linter.unusedVariables false
attribute [local irreducible] finS

theorem nodup_take {xs : List (List UInt8)} (h : xs.Nodup) {k : Nat} (hk : k < xs.length) : decide (xs.getD k [] ∈ xs.take k) = false := by
  refine decide_eq_false fun hm => ?_
  obtain ⟨j, hj, e⟩ := List.mem_iff_getElem.1 hm
  rw [List.length_take] at hj
  rw [List.getElem_take, List.getD_eq_getElem?_getD, List.getElem?_eq_getElem hk] at e
  exact List.pairwise_iff_getElem.1 h j k (by omega) hk (by omega) e
theorem numV1 : numV [49] = (1, true) := by
  have h1 : Lib.itoa 1 = [49] := by rw [Lib.itoa, if_neg (by omega), show (1 : Int).toNat = 1 from rfl, dec_small (by omega)]; rfl
  rw [← h1]
  exact numV_itoa (by omega) (by omega)
theorem fnTripFind_ok (bs : List Int) (h : Hp) (net : List Leg) (src dst : List UInt8) (t : Int) (hD : ∀ g, Gives Tryz.prog 5 [.slice (bs.map (.int .u8)) .no] g (.tup [.slice (net.map Leg.d) .no, .str src, .str dst, .int .i64 t])) (hn : netB net = true) : Gives Tryz.prog 3 [.slice (bs.map (.int .u8)) .no] h (.bool true) := by
  have hI := fun g => implFind_gives net src dst t g
  have hS := fun g => specFind_gives net src dst t g
  have hlen := waysV_len (netB_len hn) dst 3 src t
  have hstr := waysV_str (fun l hl => (nameB_len (netB_legs hn l hl).name).2) dst 3 src t
  have hT := fun w hw => way_text (dst := dst) (src := src) (t := t) (w := w) hn hw
  have hnd := ways_nodup hn dst 3 src t
  have hsg := fun l (hl : l ∈ net) h1 h2 h3 => ways_single (dst := dst) (src := src) (t := t) 2 hl h1 h2 h3
  have hnl := netB_len hn
  rw [findV_t hn] at hI hS
  generalize waysV net dst 3 src t = xs at hI hS hlen hstr hT hnd hsg
  have hx0 : decide (xs = xs) = true := decide_eq_true rfl
  refine meets_of [] mixed Tryz.func3 rfl (by kernel_rfl) (by kernel_rfl) (by rw [Tryz.ntmps3]; simp only [List.length_cons, List.length_nil]; omega) (fun hf => ?_)
  rw [Tryz.results3]
  clear hf
  try simp -implicitDefEqProofs only [hn, hx0, bne_self_eq_false, push_cast, Nat.reduceEqDiff, Nat.reduceBEq, Nat.reduceBNe, Nat.reduceAdd, Nat.reduceMul, Nat.reduceLT, Nat.reduceLeDiff, Nat.reduceSub, reduceCtorEq, Int.reduceToNat, ↓reduceIte]
  repeat'
    (first
     | (refine uYes ?_; first | exact List.mem_cons_self | (simp only [List.mem_cons, List.not_mem_nil, or_false, true_or, or_true]; done))
     | (refine uNo (by kernel_rfl))
     | (refine flatMk ?_; kernel_rfl)
     | (refine And.intro ?_ ?_)
     | (intro hx)
     | ((first
         | (refine callGF ?_)
         | (refine callQGF ?_)
         | (refine skipG ?_)
         | (refine callS (hD _) ?_)
         | (refine callQ (hD _) ?_)
         | (refine callG (fun hc => (hD _)) ?_)
         | (refine callQG (fun hc => (hD _)) ?_)
         | (refine callS (hI _) ?_)
         | (refine callQ (hI _) ?_)
         | (refine callG (fun hc => (hI _)) ?_)
         | (refine callQG (fun hc => (hI _)) ?_)
         | (refine callS (hS _) ?_)
         | (refine callQ (hS _) ?_)
         | (refine callG (fun hc => (hS _)) ?_)
         | (refine callQG (fun hc => (hS _)) ?_)
         | (refine callS (wsWords_gives xs xs _) ?_)
         | (refine callQ (wsWords_gives xs xs _) ?_)
         | (refine callG (fun hc => (wsWords_gives xs xs _)) ?_)
         | (refine callQG (fun hc => (wsWords_gives xs xs _)) ?_)
         | (refine callS (implNetOk_gives net _) ?_)
         | (refine callQ (implNetOk_gives net _) ?_)
         | (refine callG (fun hc => (implNetOk_gives net _)) ?_)
         | (refine callQG (fun hc => (implNetOk_gives net _)) ?_)
         | (refine callS (specNetOk_gives net _) ?_)
         | (refine callQ (specNetOk_gives net _) ?_)
         | (refine callG (fun hc => (specNetOk_gives net _)) ?_)
         | (refine callQG (fun hc => (specNetOk_gives net _)) ?_)); simp -implicitDefEqProofs only [hn, hx0, bne_self_eq_false, push_cast, Nat.reduceEqDiff, Nat.reduceBEq, Nat.reduceBNe, Nat.reduceAdd, Nat.reduceMul, Nat.reduceLT, Nat.reduceLeDiff, Nat.reduceSub, reduceCtorEq, Int.reduceToNat, ↓reduceIte]))
  all_goals try omega
  refine ev_loop0 [] (fun k : Nat => [(0, .slice (bs.map (.int .u8)) .no), (3, .slice (net.map Leg.d) .no), (4, .str src), (5, .str dst), (6, .int .i64 t), (7, .slice (xs.map .str) .no), (8, .int .i64 k)]) (fun k => k ≤ xs.length) (fun k => xs.length - k) 0 trivial (Nat.zero_le _) ?_ ?_
  · refine ⟨rfl, [], ?_⟩
    simp -implicitDefEqProofs only [Int.natCast_add, Int.cast_ofNat_Int, List.length_nil, Nat.le_refl, WeakTo, tokSts, tokOks, List.append_cancel_left_eq, exists_eq_left', exists_eq_left, List.append_cancel_left_eq, List.take_length, ObCl, and_true, true_and, push_cast, Nat.reduceEqDiff, Nat.reduceBEq, Nat.reduceBNe, Nat.reduceAdd, Nat.reduceMul, Nat.reduceLT, Nat.reduceLeDiff, Nat.reduceSub, reduceCtorEq, Int.reduceToNat, ↓reduceIte]
  · intro k hk
    have hw : IntKind.i64.wrap ((k : Int) + 1) = k + 1 := wrap_id (by omega) (by omega)
    by_cases hlt : k < xs.length
    · have hm : xs.getD k [] ∈ xs := (all_getD (d := []) (p := fun w => w ∈ xs)).2 (fun x h => h) k hlt
      obtain ⟨T, t1, t2, t3, t4⟩ := hT _ hm
      have hsl := hstr _ hm
      have hnt := nodup_take hnd hlt
      have hmin : min k xs.length = k := by omega
      have hsc : T.seats = 1 := by rw [t2]
      have hRd := fun g => implTripRead_good _ _ _ _ T g (by simp only [List.length_append, List.length_cons, List.length_nil]; omega) t1 (by rw [hsc]; exact numV1) (by rw [hsc]; exact t2) t3
      have hOk := fun g => implTripOk_gives net T g
      rw [hn, t4] at hOk
      have hHas := fun g => wsHas_gives (xs.take k) (xs.getD k []) g
      rw [hnt] at hHas
      try simp -implicitDefEqProofs only [hw, lenMax, hmin, ← List.map_take, push_cast, Nat.reduceEqDiff, Nat.reduceBEq, Nat.reduceBNe, Nat.reduceAdd, Nat.reduceMul, Nat.reduceLT, Nat.reduceLeDiff, Nat.reduceSub, reduceCtorEq, Int.reduceToNat, ↓reduceIte]
      repeat'
        (first
         | (refine uYes ?_; first | exact List.mem_cons_self | (simp only [List.mem_cons, List.not_mem_nil, or_false, true_or, or_true]; done))
         | (refine uNo (by kernel_rfl))
         | (refine flatMk ?_; kernel_rfl)
         | (refine And.intro ?_ ?_)
         | (intro hx)
         | ((first
             | (refine callGF ?_)
             | (refine callQGF ?_)
             | (refine skipG ?_)
             | (refine inX_mkP [] (by kernel_rfl) (by simp) ?_)
             | (refine callS (hRd _) ?_)
             | (refine callQ (hRd _) ?_)
             | (refine callG (fun hc => (hRd _)) ?_)
             | (refine callQG (fun hc => (hRd _)) ?_)
             | (refine callS (hOk _) ?_)
             | (refine callQ (hOk _) ?_)
             | (refine callG (fun hc => (hOk _)) ?_)
             | (refine callQG (fun hc => (hOk _)) ?_)
             | (refine callS (hHas _) ?_)
             | (refine callQ (hHas _) ?_)
             | (refine callG (fun hc => (hHas _)) ?_)
             | (refine callQG (fun hc => (hHas _)) ?_)); simp -implicitDefEqProofs only [hw, lenMax, hmin, ← List.map_take, push_cast, Nat.reduceEqDiff, Nat.reduceBEq, Nat.reduceBNe, Nat.reduceAdd, Nat.reduceMul, Nat.reduceLT, Nat.reduceLeDiff, Nat.reduceSub, reduceCtorEq, Int.reduceToNat, ↓reduceIte]))
      all_goals first
        | omega
        | (refine round_mk0 (k + 1) (by omega) (by omega) ⟨[.row T.cs], ?_⟩
           simp -implicitDefEqProofs only [hw, Int.natCast_add, Int.cast_ofNat_Int, List.length_nil, Nat.le_refl, WeakTo, tokSts, tokOks, List.append_cancel_left_eq, exists_eq_left', exists_eq_left, List.append_cancel_left_eq, List.take_length, ObCl, and_true, true_and, push_cast, Nat.reduceEqDiff, Nat.reduceBEq, Nat.reduceBNe, Nat.reduceAdd, Nat.reduceMul, Nat.reduceLT, Nat.reduceLeDiff, Nat.reduceSub, reduceCtorEq, Int.reduceToNat, ↓reduceIte]
           done)
        | (refine round_mk0 (k + 1) (by omega) (by omega) ⟨[.row T.cs], ?_⟩
           simp -implicitDefEqProofs only [hw, Int.natCast_add, Int.cast_ofNat_Int, List.length_nil, Nat.le_refl, WeakTo, tokSts, tokOks, List.append_cancel_left_eq, exists_eq_left', exists_eq_left, List.append_cancel_left_eq, List.take_length, ObCl, and_true, true_and, push_cast, Nat.reduceEqDiff, Nat.reduceBEq, Nat.reduceBNe, Nat.reduceAdd, Nat.reduceMul, Nat.reduceLT, Nat.reduceLeDiff, Nat.reduceSub, reduceCtorEq, Int.reduceToNat, ↓reduceIte]
           trace_state)
        | trace_state
    · obtain rfl : k = xs.length := by omega
      try simp -implicitDefEqProofs only [hw, push_cast, Nat.reduceEqDiff, Nat.reduceBEq, Nat.reduceBNe, Nat.reduceAdd, Nat.reduceMul, Nat.reduceLT, Nat.reduceLeDiff, Nat.reduceSub, reduceCtorEq, Int.reduceToNat, ↓reduceIte]
      repeat'
        (first
         | (refine uYes ?_; first | exact List.mem_cons_self | (simp only [List.mem_cons, List.not_mem_nil, or_false, true_or, or_true]; done))
         | (refine uNo (by kernel_rfl))
         | (refine flatMk ?_; kernel_rfl)
         | (refine And.intro ?_ ?_)
         | (intro hx)
         | ((first
             | (refine callGF ?_)
             | (refine callQGF ?_)
             | (refine skipG ?_)
             | (refine callS (in_gives _ _ _ _) ?_)
             | (refine callQ (in_gives _ _ _ _) ?_)
             | (refine callG (fun hc => (in_gives _ _ _ _)) ?_)
             | (refine callQG (fun hc => (in_gives _ _ _ _)) ?_)); simp -implicitDefEqProofs only [hw, push_cast, Nat.reduceEqDiff, Nat.reduceBEq, Nat.reduceBNe, Nat.reduceAdd, Nat.reduceMul, Nat.reduceLT, Nat.reduceLeDiff, Nat.reduceSub, reduceCtorEq, Int.reduceToNat, ↓reduceIte]))
      all_goals try omega
      refine ev_loop0 [] (fun j : Nat => [(0, .slice (bs.map (.int .u8)) .no), (3, .slice (net.map Leg.d) .no), (4, .str src), (5, .str dst), (6, .int .i64 t), (7, .slice (xs.map .str) .no), (11, .int .i64 j)]) (fun j => j ≤ net.length) (fun j => net.length - j) 0 trivial (Nat.zero_le _) ?_ ?_
      · refine ⟨rfl, [], ?_⟩
        simp -implicitDefEqProofs only [Int.natCast_add, Int.cast_ofNat_Int, List.length_nil, Nat.le_refl, WeakTo, tokSts, tokOks, List.append_cancel_left_eq, exists_eq_left', exists_eq_left, List.append_cancel_left_eq, List.take_length, ObCl, and_true, true_and, push_cast, Nat.reduceEqDiff, Nat.reduceBEq, Nat.reduceBNe, Nat.reduceAdd, Nat.reduceMul, Nat.reduceLT, Nat.reduceLeDiff, Nat.reduceSub, reduceCtorEq, Int.reduceToNat, ↓reduceIte]
      · intro j hj
        have hw : IntKind.i64.wrap ((j : Int) + 1) = j + 1 := wrap_id (by omega) (by omega)
        by_cases hlt : j < net.length
        · have hL := leg_at hlt
          have hm : net.getD j default ∈ net := (all_getD (d := default) (p := fun w => w ∈ net)).2 (fun x h => h) j hlt
          have hsj := hsg _ hm
          try simp -implicitDefEqProofs only [hw, hL, push_cast, Nat.reduceEqDiff, Nat.reduceBEq, Nat.reduceBNe, Nat.reduceAdd, Nat.reduceMul, Nat.reduceLT, Nat.reduceLeDiff, Nat.reduceSub, reduceCtorEq, Int.reduceToNat, ↓reduceIte]
          repeat'
            (first
             | (refine uYes ?_; first | exact List.mem_cons_self | (simp only [List.mem_cons, List.not_mem_nil, or_false, true_or, or_true]; done))
             | (refine uNo (by kernel_rfl))
             | (refine flatMk ?_; kernel_rfl)
             | (refine And.intro ?_ ?_)
             | (intro hx)
             | ((first
                 | (refine callGF ?_)
                 | (refine callQGF ?_)
                 | (refine skipG ?_)
                 | (refine callS (wsHas_gives xs (net.getD j default).name _) ?_)
                 | (refine callQ (wsHas_gives xs (net.getD j default).name _) ?_)
                 | (refine callG (fun hc => (wsHas_gives xs (net.getD j default).name _)) ?_)
                 | (refine callQG (fun hc => (wsHas_gives xs (net.getD j default).name _)) ?_)); simp -implicitDefEqProofs only [hw, hL, push_cast, Nat.reduceEqDiff, Nat.reduceBEq, Nat.reduceBNe, Nat.reduceAdd, Nat.reduceMul, Nat.reduceLT, Nat.reduceLeDiff, Nat.reduceSub, reduceCtorEq, Int.reduceToNat, ↓reduceIte]))
          all_goals first
            | omega
            | (refine round_mk0 (j + 1) (by omega) (by omega) ⟨[], ?_⟩
               simp -implicitDefEqProofs only [hw, Int.natCast_add, Int.cast_ofNat_Int, List.length_nil, Nat.le_refl, WeakTo, tokSts, tokOks, List.append_cancel_left_eq, exists_eq_left', exists_eq_left, List.append_cancel_left_eq, List.take_length, ObCl, and_true, true_and, push_cast, Nat.reduceEqDiff, Nat.reduceBEq, Nat.reduceBNe, Nat.reduceAdd, Nat.reduceMul, Nat.reduceLT, Nat.reduceLeDiff, Nat.reduceSub, reduceCtorEq, Int.reduceToNat, ↓reduceIte])
            | grind
            | trace_state
        · try simp -implicitDefEqProofs only [hw, push_cast, Nat.reduceEqDiff, Nat.reduceBEq, Nat.reduceBNe, Nat.reduceAdd, Nat.reduceMul, Nat.reduceLT, Nat.reduceLeDiff, Nat.reduceSub, reduceCtorEq, Int.reduceToNat, ↓reduceIte]
          repeat'
            (first
             | (refine uYes ?_; first | exact List.mem_cons_self | (simp only [List.mem_cons, List.not_mem_nil, or_false, true_or, or_true]; done))
             | (refine uNo (by kernel_rfl))
             | (refine flatMk ?_; kernel_rfl)
             | (refine And.intro ?_ ?_)
             | (intro hx)
             | ((first
                 | (refine callGF ?_)
                 | (refine callQGF ?_)
                 | (refine skipG ?_)
                 | (refine callS (in_gives _ _ _ _) ?_)
                 | (refine callQ (in_gives _ _ _ _) ?_)
                 | (refine callG (fun hc => (in_gives _ _ _ _)) ?_)
                 | (refine callQG (fun hc => (in_gives _ _ _ _)) ?_)); simp -implicitDefEqProofs only [hw, push_cast, Nat.reduceEqDiff, Nat.reduceBEq, Nat.reduceBNe, Nat.reduceAdd, Nat.reduceMul, Nat.reduceLT, Nat.reduceLeDiff, Nat.reduceSub, reduceCtorEq, Int.reduceToNat, ↓reduceIte]))
          all_goals first
            | omega
            | trace_state
theorem fnTripFind_bad (bs : List Int) (h : Hp) (net : List Leg) (src dst : List UInt8) (t : Int) (hD : ∀ g, Gives Tryz.prog 5 [.slice (bs.map (.int .u8)) .no] g (.tup [.slice (net.map Leg.d) .no, .str src, .str dst, .int .i64 t])) (hn : netB net = false) : Gives Tryz.prog 3 [.slice (bs.map (.int .u8)) .no] h (.bool true) := by
  have hI := fun g => implFind_gives net src dst t g
  have hS := fun g => specFind_gives net src dst t g
  rw [findV_f hn] at hI hS
  have hx0 : decide (([] : List (List UInt8)) = []) = true := decide_eq_true rfl
  have hW := fun g => wsWords_gives [] [] g
  rw [hx0] at hW
  refine meets_of [] mixed Tryz.func3 rfl (by kernel_rfl) (by kernel_rfl) (by rw [Tryz.ntmps3]; simp only [List.length_cons, List.length_nil]; omega) (fun hf => ?_)
  rw [Tryz.results3]
  clear hf
  try simp -implicitDefEqProofs only [hn, hx0, bne_self_eq_false, push_cast, Nat.reduceEqDiff, Nat.reduceBEq, Nat.reduceBNe, Nat.reduceAdd, Nat.reduceMul, Nat.reduceLT, Nat.reduceLeDiff, Nat.reduceSub, reduceCtorEq, Int.reduceToNat, ↓reduceIte]
  repeat'
    (first
     | (refine uYes ?_; first | exact List.mem_cons_self | (simp only [List.mem_cons, List.not_mem_nil, or_false, true_or, or_true]; done))
     | (refine uNo (by kernel_rfl))
     | (refine flatMk ?_; kernel_rfl)
     | (refine And.intro ?_ ?_)
     | (intro hx)
     | ((first
         | (refine callGF ?_)
         | (refine callQGF ?_)
         | (refine skipG ?_)
         | (refine callS (hD _) ?_)
         | (refine callQ (hD _) ?_)
         | (refine callG (fun hc => (hD _)) ?_)
         | (refine callQG (fun hc => (hD _)) ?_)
         | (refine callS (hI _) ?_)
         | (refine callQ (hI _) ?_)
         | (refine callG (fun hc => (hI _)) ?_)
         | (refine callQG (fun hc => (hI _)) ?_)
         | (refine callS (hS _) ?_)
         | (refine callQ (hS _) ?_)
         | (refine callG (fun hc => (hS _)) ?_)
         | (refine callQG (fun hc => (hS _)) ?_)
         | (refine callS (hW _) ?_)
         | (refine callQ (hW _) ?_)
         | (refine callG (fun hc => (hW _)) ?_)
         | (refine callQG (fun hc => (hW _)) ?_)
         | (refine callS (implNetOk_gives net _) ?_)
         | (refine callQ (implNetOk_gives net _) ?_)
         | (refine callG (fun hc => (implNetOk_gives net _)) ?_)
         | (refine callQG (fun hc => (implNetOk_gives net _)) ?_)
         | (refine callS (specNetOk_gives net _) ?_)
         | (refine callQ (specNetOk_gives net _) ?_)
         | (refine callG (fun hc => (specNetOk_gives net _)) ?_)
         | (refine callQG (fun hc => (specNetOk_gives net _)) ?_)); simp -implicitDefEqProofs only [hn, hx0, bne_self_eq_false, push_cast, Nat.reduceEqDiff, Nat.reduceBEq, Nat.reduceBNe, Nat.reduceAdd, Nat.reduceMul, Nat.reduceLT, Nat.reduceLeDiff, Nat.reduceSub, reduceCtorEq, Int.reduceToNat, ↓reduceIte]))
  all_goals first
    | omega
    | trace_state
theorem fnTripFind_gives (bs : List Int) (h : Hp) (hb : ∀ x, x ∈ bs → 0 ≤ x ∧ x ≤ 255) : Gives Tryz.prog 3 [.slice (bs.map (.int .u8)) .no] h (.bool true) := by
  have hD := fun g => drawTripFind_gives bs g hb
  cases hn : netB (findD bs).1 with
  | true => exact fnTripFind_ok bs h _ _ _ _ hD hn
  | false => exact fnTripFind_bad bs h _ _ _ _ hD hn
end Go.Proofs.YtdoclnjmcmdfdaaGreatDoor
