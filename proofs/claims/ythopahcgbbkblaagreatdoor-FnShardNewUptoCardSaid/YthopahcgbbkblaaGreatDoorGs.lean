/- The library's Itoa and Join, as contracts over data. -/
import Derived.Test.YthopahcgbbkblaaGreatDoorShl
import Derived.Test.YthopahcgbbkblaaGreatDoorEs
import Derived.Test.YthopahcgbbkblaaGreatDoorGa
import Derived.Test.YthopahcgbbkblaaGreatDoorGr
import Derived.Test.YthopahcgbbkblaaGreatDoorGe
import Derived.Test.YthopahcgbbkblaaGreatDoorGf
import Derived.Test.YthopahcgbbkblaaGreatDoorGc
import Derived.Test.YthopahcgbbkblaaGreatDoorGd
import Derived.Test.YthopahcgbbkblaaGreatDoorGg
import Derived.Test.YthopahcgbbkblaaGreatDoorGu
import Derived.Test.YthopahcgbbkblaaGreatDoorEd
import Derived.Stop.LaidErr
import Derived.MakeChecks

namespace Go.Proofs.YthopahcgbbkblaaGreatDoor
set_option linter.unusedSectionVars false
open Go.Av
variable [Av.Start]
set_option maxRecDepth 10000
set_option maxHeartbeats 1000000
set_option linter.unusedSimpArgs false
set_option linter.unusedVariables false

theorem repL1 {w : World} {ow : Nat → Nat → Prop} {σ : Sg} {h : Hp} {d : D} {vs : List Value} (H : RepL w ow σ h [d] vs) : ∃ v, vs = [v] ∧ Rep w ow σ h d v := by
  obtain ⟨h1, h2⟩ := H
  match vs, h1 with
  | [v], _ => exact ⟨v, rfl, h2 0 (by simp) (by simp)⟩
theorem repL2 {w : World} {ow : Nat → Nat → Prop} {σ : Sg} {h : Hp} {d e : D} {vs : List Value} (H : RepL w ow σ h [d, e] vs) : ∃ v u, vs = [v, u] ∧ Rep w ow σ h d v ∧ Rep w ow σ h e u := by
  obtain ⟨h1, h2⟩ := H
  match vs, h1 with
  | [v, u], _ => exact ⟨v, u, rfl, h2 0 (by simp) (by simp), h2 1 (by simp) (by simp)⟩
theorem bytes_back (s : List UInt8) : (⟨s.toArray⟩ : ByteArray).data.toList = s := rfl
theorem below_grow (w : World) (k : Nat) (os : Array Obj) : RowKit.Below w.heap.size w (Sort.grow (w.drewN k) os) := by
  refine ⟨rfl, rfl, rfl, by simp [Sort.grow, World.drewN], fun b hb => ?_⟩
  simp only [Sort.grow, World.drewN]
  rw [Array.getElem?_append_left hb]

/-- the table of powers of ten, as it is laid at the start -/
class TabPow [Av.Start] : Prop where
  pow10 : Lib.TabIs Tryz.prog Av.Start.w0 "internal/strconv.uint64pow10" .u64 Lib.pow10Tab
theorem tab_now {P : Program} {w : World} {σ : Sg} {h : Hp} (hi : Inv w σ h) {n : String} {k : IntKind} {zs : List Int} (e : Lib.TabIs P Av.Start.w0 n k zs) : Lib.TabIs P w n k zs := var_kept hi.kept.same e
variable [TabPow]
theorem itoa_gives (n : Int) (h : Hp) (h0 : -9223372036854775808 ≤ n) (h1 : n ≤ 9223372036854775807) : Gives Tryz.prog 93 [.int .i64 n] h (.str (Lib.itoa n)) := by
  refine gives_lib (enters_at Tryz.func93 (by kernel_rfl) (by kernel_rfl)) fun w σ vs hi hr => ?_
  obtain ⟨v, rfl, hv⟩ := repL1 hr
  cases hv
  refine (Any.strconv_Itoa Tryz.laysM171 n h0 h1 w (tab_now hi TabPow.pow10)).mono ?_
  rintro e w' ⟨rfl, k, os, rfl⟩
  have hl := Lib.itoa_length_le n h0 h1
  exact ⟨_, rfl, below_grow w k os, fun ow _ => .str _ (by simp only [lenMax]; omega)⟩
omit [TabPow] in
theorem join_gives (ws : List (List UInt8)) (sep : List UInt8) (h : Hp) (hl : (Lib.join ws sep).length ≤ 1073741824) : Gives Tryz.prog 118 [.slice (ws.map .str) .no, .str sep] h (.str (Lib.join ws sep)) := by
  refine gives_lib (enters_at Tryz.func118 (by kernel_rfl) (by kernel_rfl)) fun w σ vs hi hr => ?_
  obtain ⟨v, u, rfl, hv, hu⟩ := repL2 hr
  cases hu
  cases hv with
  | slice _ _ a cap vals hlen hcap hfull htok hc hr2 =>
    rw [List.length_map] at hlen hcap
    by_cases he : ws = []
    · subst he
      refine (Any.strings_Join_none Tryz.lays156 Tryz.Builder_Extra_156 a cap _ w).mono ?_
      rintro e w' ⟨rfl, rfl⟩
      exact ⟨_, rfl, .refl _ _, fun ow _ => .str [] (Nat.zero_le _)⟩
    · have h0 : 0 < ws.length := by
        cases ws with
        | nil => exact absurd rfl he
        | cons => simp
      simp only [flat_strs] at hc hr2
      obtain ⟨b, o, rfl, _, _⟩ := hc 0 (by simpa using h0)
      have key : ∀ k (hk : k < ws.length), w.cell? ⟨b, o + k, none⟩ = some (.string ⟨(ws[k]).toArray⟩) := fun k hk => by
        obtain ⟨b', o', e, _, hcell⟩ := hc k (by simpa using hk)
        cases e
        have := hr2 k (by simpa using hk)
        rw [List.getElem_map] at this
        rw [hcell]
        generalize vals k = v at this
        cases this
        rfl
      have hx : (ws.map fun s => (⟨s.toArray⟩ : ByteArray)).map (·.data.toList) = ws := by
        rw [List.map_map]
        exact List.map_id'' (fun s => rfl) ws
      have hj := Any.strings_Join Tryz.lays156 Tryz.Builder_Extra_156 b o cap (ws.map fun s => (⟨s.toArray⟩ : ByteArray)) ⟨sep.toArray⟩ w (fun j x hx => by
          obtain ⟨hj, rfl⟩ := List.getElem?_eq_some_iff.1 hx
          rw [List.getElem_map]
          exact key j (by simpa using hj)) (lt_of_cell (key 0 h0)) (by rw [List.length_map]; simp only [lenMax] at hlen; omega) (by rw [List.length_map]; exact hcap) (by rw [hx]; exact Nat.le_trans hl (by omega))
      rw [hx, List.length_map] at hj
      rw [List.length_map]
      refine hj.mono ?_
      rintro e w' ⟨rfl, hb⟩
      exact ⟨_, rfl, hb, fun ow _ => .str _ (by simpa [lenMax] using hl)⟩
end Go.Proofs.YthopahcgbbkblaaGreatDoor

/- The reference's l1Dec, l2Num, l3Cut, l6List. -/
namespace Go.Proofs.YthopahcgbbkblaaGreatDoor
set_option linter.unusedSectionVars false
open Go.Av
variable [Av.Start]
set_option maxRecDepth 10000
set_option maxHeartbeats 1000000
set_option linter.unusedSimpArgs false
set_option linter.unusedVariables false

theorem u8w {n : Int} (h0 : 0 ≤ n) (h1 : n ≤ 255) : IntKind.u8.wrap n = n := by
  rw [show IntKind.u8.wrap n = n % 256 from rfl]
  omega
/-- numbers with commas between -/
def numsT (xs : List Int) : List UInt8 := joinC 44 (xs.map Lib.itoa)
theorem numsT_snoc (xs : List Int) (n : Int) (h : xs ≠ []) : numsT (xs ++ [n]) = numsT xs ++ 44 :: Lib.itoa n := by
  induction xs with
  | nil => exact absurd rfl h
  | cons x xs ih =>
    cases xs with
    | nil => rfl
    | cons y ys =>
      have := ih (by simp)
      simp only [numsT, List.map_cons, List.cons_append, joinC] at this ⊢
      rw [this, List.append_assoc]
      rfl
theorem numsT_len : ∀ (xs : List Int), (∀ x, x ∈ xs → inI x) → (numsT xs).length ≤ 22 * xs.length
  | [], _ => Nat.le_refl _
  | [x], h => by
    have := Lib.itoa_length_le x (h x (by simp)).1 (h x (by simp)).2
    show (Lib.itoa x).length ≤ _
    simp only [List.length_cons, List.length_nil]
    omega
  | x :: y :: ys, h => by
    have h1 := Lib.itoa_length_le x (h x (by simp)).1 (h x (by simp)).2
    have h2 := numsT_len (y :: ys) (fun z hz => h z (List.mem_cons_of_mem _ hz))
    have e : numsT (x :: y :: ys) = Lib.itoa x ++ 44 :: numsT (y :: ys) := rfl
    rw [e, List.length_append, List.length_cons]
    simp only [List.length_cons] at h2 ⊢
    omega
end Go.Proofs.YthopahcgbbkblaaGreatDoor

/- A leg as a text, on both sides. -/
namespace Go.Proofs.YthopahcgbbkblaaGreatDoor
set_option linter.unusedSectionVars false
open Go.Av
variable [Av.Start] [TabPow]
set_option maxRecDepth 10000
set_option maxHeartbeats 1000000
set_option linter.unusedSimpArgs false
set_option linter.unusedVariables false

omit [TabPow] in
theorem gives_wk' {P : Program} {f : FuncId} {ys xs : List D} {h : Hp} {d : D} (H : Gives P f xs h d) (hw : WkL ys xs) : Gives P f ys h d := ⟨H.1, fun w σ vs hi hr => H.2 w σ vs hi (hr.wk hw)⟩
omit [TabPow] in
theorem strs_cln' (xs : List (List UInt8)) (n : Nat) : Cl n (.slice (xs.map D.str) .no) := .slice _ _ (fun _ _ e => nomatch e)
/-- a leg's text -/
def legT (l : Leg) : List UInt8 := joinC 32 [l.name, l.src, l.dst, Lib.itoa l.dep, Lib.itoa l.arr, numsT l.limits, numsT l.sold, numsT l.bids]
structure Leg.Small (l : Leg) : Prop where
  name : l.name.length ≤ 8
  src : l.src.length ≤ 8
  dst : l.dst.length ≤ 8
  dep : inI l.dep
  arr : inI l.arr
  limits : (∀ x, x ∈ l.limits → inI x) ∧ l.limits.length ≤ 10
  sold : (∀ x, x ∈ l.sold → inI x) ∧ l.sold.length ≤ 10
  bids : (∀ x, x ∈ l.bids → inI x) ∧ l.bids.length ≤ 10
theorem Leg.small {l : Leg} (hb : legB l = true) : l.Small := by
  have hp := legP_of hb
  have hd := hp.dep
  have ha := hp.arr
  have hc := hp.cap
  have hl := hp.limits
  have hs := hp.sold
  have hbi := hp.bids
  refine ⟨(nameB_len hp.name).2, (nameB_len hp.src).2, (nameB_len hp.dst).2, ⟨by omega, by omega⟩, ⟨by omega, by omega⟩, ⟨(all_getD (d := 0)).1 fun i hi => ?_, by omega⟩, ⟨fun x hx => ?_, by omega⟩, ⟨(all_getD (d := 0)).1 fun i hi => ?_, by omega⟩⟩
  · have := hp.lim i (by omega)
    exact ⟨by omega, by omega⟩
  · have := hp.sol x hx
    exact ⟨by omega, by omega⟩
  · have := hp.bid i hi
    exact ⟨by omega, by omega⟩
end Go.Proofs.YthopahcgbbkblaaGreatDoor

/- What a row's list of laid tables gives. -/
namespace Go.Proofs.YthopahcgbbkblaaGreatDoor
set_option linter.unusedSectionVars false
set_option maxRecDepth 10000
set_option maxHeartbeats 1000000
set_option linter.unusedVariables false

theorem pow10_g : Tryz.prog.globalNamed "internal/strconv.uint64pow10" = some (Tryz.prog.globalNamed "internal/strconv.uint64pow10" |>.getD 0) := by kernel_rfl
theorem pow10_tab : (Rows.laid_internal_strconv_uint64pow10 : DataW Unit) = Lib.tabData .u64 Lib.pow10Tab := by kernel_rfl
theorem pow10_of {W : World} {a b : String × DataW Unit} {rest : List (String × DataW Unit)} (h : laidMet Tryz.prog (a :: b :: ("internal/strconv.uint64pow10", Rows.laid_internal_strconv_uint64pow10) :: rest) W) : Lib.TabIs Tryz.prog W "internal/strconv.uint64pow10" .u64 Lib.pow10Tab := by
  have h := h.tail.tail
  rw [pow10_tab] at h
  exact Lib.tabIs_of_head pow10_g (t := 188) (e := 127) (n := 20) (by kernel_rfl) Tryz.underlying188 Tryz.underlying127 (by kernel_rfl) (by kernel_rfl) h
end Go.Proofs.YthopahcgbbkblaaGreatDoor
