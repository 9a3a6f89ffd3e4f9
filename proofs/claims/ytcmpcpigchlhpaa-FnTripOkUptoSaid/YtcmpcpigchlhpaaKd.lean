/- Marks are drawn. -/
import Derived.Test.YtcmpcpigchlhpaaKc

namespace Go.Proofs.Ytcmpcpigchlhpaa
set_option linter.unusedSectionVars false
open Go.Av
variable [Av.Start]
set_option maxRecDepth 10000
set_option maxHeartbeats 2000000
set_option linter.unusedSimpArgs false
set_option linter.unusedVariables false

def mkI (bs : List Int) (q : Int) (m0 : Mrk) : Nat → Mrk
  | 0 => m0
  | i + 1 => ⟨(mkI bs q m0 i).at_ + 1 + pickV bs (q + 2 * i) 30, pickV bs (q + 2 * i + 1) 20⟩
def mksD (bs : List Int) (q : Int) (m0 : Mrk) (k : Nat) : List Mrk := (List.range k).map (mkI bs q m0)
omit [Av.Start] in
theorem mksD_succ (bs : List Int) (q : Int) (m0 : Mrk) (k : Nat) : mksD bs q m0 (k + 1) = mksD bs q m0 k ++ [mkI bs q m0 k] := by
  rw [mksD, List.range_succ, List.map_append]
  rfl
omit [Av.Start] in
theorem mksD_len (bs : List Int) (q : Int) (m0 : Mrk) (k : Nat) : (mksD bs q m0 k).length = k := by rw [mksD, List.length_map, List.length_range]
omit [Av.Start] in
theorem mksD_get (bs : List Int) (q : Int) (m0 : Mrk) {k i : Nat} (h : i < k) : (mksD bs q m0 k).getD i default = mkI bs q m0 i := by
  rw [mksD, List.getD_eq_getElem?_getD, List.getElem?_map, List.getElem?_range h]
  rfl
omit [Av.Start] in
theorem mks_len (xs : List Mrk) : (xs.flatMap Mrk.cs).length = xs.length * 2 := flatMap_length (f := Mrk.cs) (m := 2) (fun _ => rfl) xs
omit [Av.Start] in
theorem mks_cl (xs : List Mrk) (n : Nat) : ∀ d, d ∈ xs.flatMap Mrk.cs → Cl n d := fun d hd => by
  obtain ⟨m, _, hd⟩ := List.mem_flatMap.1 hd
  simp only [Mrk.cs, List.mem_cons, List.not_mem_nil, or_false] at hd
  rcases hd with rfl | rfl <;> exact .int _ _
omit [Av.Start] in
theorem mks_ren (xs : List Mrk) (n k : Nat) : RenOb n k (.row (xs.flatMap Mrk.cs)) (.row (xs.flatMap Mrk.cs)) := .row _ _ rfl (fun j h1 h2 => by
  obtain ⟨m, _, hd⟩ := List.mem_flatMap.1 (List.getElem_mem h1)
  simp only [Mrk.cs, List.mem_cons, List.not_mem_nil, or_false] at hd
  rcases hd with e | e <;> rw [e] <;> exact .int _ _)
omit [Av.Start] in
theorem fw_mks {n : Nat} {h : Hp} {r : Nat} {xs : List Mrk} {k cp : Nat} (hn : n ≤ r) (hr : ob h r = .row (xs.flatMap Mrk.cs)) (hk : k = xs.length) : FW n h (.vec r true 2 0 k cp) (.slice (xs.map Mrk.d) .no) := by
  refine fw_row (ag := true) (m := 2) (g := Mrk.d) (f := Mrk.cs) (rest := []) (by omega) (fun _ => rfl) (fun _ => rfl) (fun _ => rfl) (fun e => nomatch e) (fun x d hd => ?_) hn (by rw [List.append_nil]; exact hr) hk
  simp only [Mrk.cs, List.mem_cons, List.not_mem_nil, or_false] at hd
  rcases hd with rfl | rfl <;> exact .int _ _
theorem mkI_ok {bs : List Int} {q : Int} {m0 : Mrk} (H : Rd bs (q + 20)) (hq : 0 ≤ q) (h0 : m0.at_ = 0 ∧ 0 ≤ m0.price ∧ m0.price ≤ 19) : ∀ i : Nat, i ≤ 4 → 0 ≤ (mkI bs q m0 i).at_ ∧ (mkI bs q m0 i).at_ ≤ 30 * i ∧ 0 ≤ (mkI bs q m0 i).price ∧ (mkI bs q m0 i).price ≤ 19
  | 0, _ => by simp only [mkI]; omega
  | i + 1, h => by
    have hh := H.hi
    have ih := mkI_ok H hq h0 i (by omega)
    have v1 := pickV_range (p := q + 2 * i) (H.up (by omega) (by omega)) 30 (by omega)
    have v2 := pickV_range (p := q + 2 * i + 1) (H.up (by omega) (by omega)) 20 (by omega)
    simp only [mkI]
    omega
theorem mksD_ok {bs : List Int} {q : Int} {m0 : Mrk} (H : Rd bs (q + 20)) (hq : 0 ≤ q) (h0 : m0.at_ = 0 ∧ 0 ≤ m0.price ∧ m0.price ≤ 19) {k : Nat} (hk : k ≤ 3) (x : Int) (hx : x = (mkI bs q m0 k).price ∨ x = 1000000) :
    MrkP (mksD bs q m0 k ++ [(⟨(mkI bs q m0 k).at_, x⟩ : Mrk)]) := by
  have hh := H.hi
  have hl := mksD_len bs q m0 k
  have hg : ∀ i, i < k → (mksD bs q m0 k ++ [(⟨(mkI bs q m0 k).at_, x⟩ : Mrk)]).getD i default = mkI bs q m0 i := fun i hi => by
    rw [List.getD_eq_getElem?_getD, List.getElem?_append_left (by omega), ← List.getD_eq_getElem?_getD, mksD_get bs q m0 hi]
  have he : (mksD bs q m0 k ++ [(⟨(mkI bs q m0 k).at_, x⟩ : Mrk)]).getD k default = ⟨(mkI bs q m0 k).at_, x⟩ := by
    rw [List.getD_eq_getElem?_getD, List.getElem?_append_right (by omega), hl, Nat.sub_self]
    rfl
  have hat : ∀ i, i ≤ k → ((mksD bs q m0 k ++ [(⟨(mkI bs q m0 k).at_, x⟩ : Mrk)]).getD i default).at_ = (mkI bs q m0 i).at_ := fun i hi => by
    rcases Nat.lt_or_ge i k with h | h
    · rw [hg i h]
    · obtain rfl : i = k := by omega
      rw [he]
  refine ⟨by rw [List.length_append, hl, List.length_singleton]; omega, fun i hi => ?_, ?_, fun i h1 h2 => ?_⟩
  · rw [List.length_append, hl, List.length_singleton] at hi
    have hi2 := mkI_ok H hq h0 i (by omega)
    rcases Nat.lt_or_ge i k with h | h
    · rw [hg i h]
      omega
    · obtain rfl : i = k := by omega
      rw [he]
      simp only
      omega
  · rw [hat 0 (by omega)]
    exact h0.1
  · rw [List.length_append, hl, List.length_singleton] at h2
    rw [hat i (by omega), hat (i - 1) (by omega)]
    have v1 := pickV_range (p := q + 2 * (i - 1 : Nat)) (H.up (by omega) (by omega)) 30 (by omega)
    conv => rhs; rw [show i = (i - 1) + 1 by omega]
    simp only [mkI]
    omega
omit [Av.Start] in
theorem back_rowsM {h : Hp} {r : Nat} (hrl : r < h.length) {cs : List D} (hc : ∀ d, d ∈ cs → Cl h.length d) (rows : Hp) (hro : ∀ x, x ∈ rows → ObCl (h.length + rows.length) x) : Back h (h.set r (.row cs) ++ rows) (h.set r (.row cs) ++ rows) := by
  refine ⟨by simp, Nat.le_refl _, List.take_length, fun q x hx => ?_⟩
  by_cases hq : q < h.length
  · rw [List.getElem?_append_left (by simpa using hq)] at hx
    by_cases e : q = r
    · subst e
      rw [List.getElem?_set_self hq] at hx
      cases hx
      exact .inr fun d hd => (hc d hd).mono (by simp)
    · rw [List.getElem?_set_ne (fun e' => e e'.symm)] at hx
      exact .inl hx
  · rw [List.getElem?_append_right (by simpa using hq)] at hx
    have := hro x (List.mem_of_getElem? hx)
    rw [List.length_append, List.length_set]
    exact .inr this
theorem l14Marks_ex (bs : List Int) (p : Int) (H : Rd bs (p + 30)) (hp0 : 0 ≤ p) : ∃ (ms : List Mrk) (p' : Int), MrkP ms ∧ p ≤ p' ∧ p' ≤ p + 20 ∧ ∀ (r : Nat) (h : Hp), ob h r = .row (rdC bs p) → r < h.length →
    Meets Try.prog 99 [.ptr r 0] h fun d' h' => d' = .slice (ms.map Mrk.d) .no ∧ h' = h.set r (.row (rdC bs p')) := by
  have hhi := H.hi
  have v0 := pickV_range (p := p) (H.up (by omega) (by omega)) 20 (by omega)
  have vN := pickV_range (p := p + 1) (H.up (by omega) (by omega)) 4 (by omega)
  obtain ⟨N, hN, hN3⟩ : ∃ N : Nat, pickV bs (p + 1) 4 = N ∧ N ≤ 3 := ⟨(pickV bs (p + 1) 4).toNat, by omega, by omega⟩
  have vL := pickV_range (p := p + 1 + 1 + 2 * N) (H.up (by omega) (by omega)) 16 (by omega)
  obtain ⟨m0, hm0⟩ : ∃ m0 : Mrk, m0 = ⟨0, pickV bs p 20⟩ := ⟨_, rfl⟩
  have h0 : m0.at_ = 0 ∧ 0 ≤ m0.price ∧ m0.price ≤ 19 := by
    rw [hm0]
    exact ⟨rfl, v0.1, by show pickV bs p 20 ≤ 19; omega⟩
  obtain ⟨L, hL⟩ : ∃ L, mkI bs (p + 1 + 1) m0 N = L := ⟨_, rfl⟩
  have hOk := fun x hx => mksD_ok (q := p + 1 + 1) (H.up (by omega) (by omega)) (show 0 ≤ p + 1 + 1 by omega) h0 hN3 x hx
  refine ⟨mksD bs (p + 1 + 1) m0 N ++ [(⟨L.at_, if pickV bs (p + 1 + 1 + 2 * N) 16 = 0 then 1000000 else L.price⟩ : Mrk)], p + 1 + 1 + 2 * N + 1, ?_, by omega, by omega, fun r h hr hrl => ?_⟩
  · rw [← hL]
    exact hOk _ (by split; exact .inr rfl; exact .inl rfl)
  obtain ⟨r1, r2, r3, r4, r5, r6, r7, r8, r9⟩ := rdf hrl
  have r4' := fun ls => (r4 ls).trans hr
  refine Meets.freezeAt (List.length_set ..) (fun q x hx => ?_) (rows := List.replicate N .dead ++ [.row ((mksD bs (p + 1 + 1) m0 N ++ [(⟨L.at_, if pickV bs (p + 1 + 1 + 2 * N) 16 = 0 then 1000000 else L.price⟩ : Mrk)]).flatMap Mrk.cs)]) (d := .vec (h.length + N) true 2 0 (N + 1) (N + 1)) ?_ (fw_mks (by simp) ?_ ?_) (.slice _ _ (fun _ _ e => nomatch e))
  · by_cases e : q = r
    · subst e
      rw [List.getElem?_set_self hrl] at hx
      cases hx
      exact .inr (rdC_cl _ _ _)
    · rw [List.getElem?_set_ne (fun e' => e e'.symm)] at hx
      exact .inl hx
  · have hm0' : D.int .i64 0 = D.int .i64 m0.at_ ∧ D.int .i64 (pickV bs p 20) = D.int .i64 m0.price := by rw [hm0]; exact ⟨rfl, rfl⟩
    refine meets_ofC [8] mixed Try.func99 rfl (by kernel_rfl) (by kernel_rfl) (by rw [Try.ntmps99]; simp only [List.length_cons, List.length_nil]; omega) (fun hf hcl => ?_)
    rw [Try.results99]
    clear hf
    try simp -implicitDefEqProofs only [r1, r2, r5, r6, r7, r8, hN, List.length_set, List.set_set, push_cast, Nat.reduceEqDiff, Nat.reduceBEq, Nat.reduceBNe, Nat.reduceAdd, Nat.reduceMul, Nat.reduceLT, Nat.reduceLeDiff, Nat.reduceSub, reduceCtorEq, Int.reduceToNat, ↓reduceIte]
    repeat'
      (first
       | (refine uYes ?_; first | exact List.mem_cons_self | (simp only [List.mem_cons, List.not_mem_nil, or_false, true_or, or_true]; done))
       | (refine uNo (by kernel_rfl))
       | (refine flatMk ?_; kernel_rfl)
       | (refine And.intro ?_ ?_)
       | (intro hx)
       | ((first
           | (refine callGF ?_)
           | (refine callQGF ?_)
           | (refine skipG ?_)
           | (refine callM (dst := some 6) (pick_gives bs p _ r _ hr hrl (H.up (by omega) (by omega))) ?_)
           | (refine callM (dst := some 10) (pick_gives bs _ _ r _ (r3 _ _) (by simp; omega) (H.up (by omega) (by omega))) ?_)); simp -implicitDefEqProofs only [r1, r2, r5, r6, r7, r8, hN, List.length_set, List.set_set, push_cast, Nat.reduceEqDiff, Nat.reduceBEq, Nat.reduceBNe, Nat.reduceAdd, Nat.reduceMul, Nat.reduceLT, Nat.reduceLeDiff, Nat.reduceSub, reduceCtorEq, Int.reduceToNat, ↓reduceIte]))
    all_goals first
      | omega
      | (simp only [lenMax]; omega)
      | skip
    refine ev_loopT r (fun k : Nat => [(0, .ptr r 0), (3, .vec (h.length + k) true 2 0 (k + 1) (k + 1)), (4, .int .i64 ((N : Int) - k))]) (fun k => rdC bs (p + 1 + 1 + 2 * k))
      (fun k => List.replicate k .dead ++ [.row ((mksD bs (p + 1 + 1) m0 (k + 1)).flatMap Mrk.cs)]) (fun k => k ≤ N) (fun k => N - k) 0 (Nat.zero_le _) ?_ ?_
    · refine ⟨⟨[.row [.int .i64 0, .int .i64 (pickV bs p 20)]], ?_, Nat.le_refl _, ?_⟩, Nat.le_refl _, ?_, rdC_cl _ _ _, ?_⟩
      · simp
      · simp [mksD, List.range_succ, mkI, hm0, Mrk.cs]
      · intro x hx
        rw [List.replicate_zero, List.nil_append, List.mem_singleton] at hx
        subst hx
        exact mks_cl _ _
      · simp -implicitDefEqProofs only [SlotsOk, Int.natCast_add, Int.cast_ofNat_Int, List.length_nil, Nat.le_refl, WeakTo, tokSts, tokOks, List.append_cancel_left_eq, exists_eq_left', exists_eq_left, List.append_cancel_left_eq, List.take_length, ObCl, and_true, true_and, push_cast, Nat.reduceEqDiff, Nat.reduceBEq, Nat.reduceBNe, Nat.reduceAdd, Nat.reduceMul, Nat.reduceLT, Nat.reduceLeDiff, Nat.reduceSub, reduceCtorEq, Int.reduceToNat, ↓reduceIte]
        omega
    · intro k hk
      have hM := mkI_ok (q := p + 1 + 1) (H.up (by omega) (by omega)) (by omega) h0 k (by omega)
      have hA : ((mksD bs (p + 1 + 1) m0 k).flatMap Mrk.cs).length = k * 2 := by rw [mks_len, mksD_len]
      have hsucc : (mksD bs (p + 1 + 1) m0 (k + 1)).flatMap Mrk.cs = (mksD bs (p + 1 + 1) m0 k).flatMap Mrk.cs ++ [.int .i64 (mkI bs (p + 1 + 1) m0 k).at_, .int .i64 (mkI bs (p + 1 + 1) m0 k).price] := by
        rw [mksD_succ, List.flatMap_append]
        simp [Mrk.cs]
      have hI : mkI bs (p + 1 + 1) m0 (k + 1) = ⟨(mkI bs (p + 1 + 1) m0 k).at_ + 1 + pickV bs (p + 1 + 1 + 2 * k) 30, pickV bs (p + 1 + 1 + 2 * k + 1) 20⟩ := rfl
      have hs2 : (mksD bs (p + 1 + 1) m0 (k + 1 + 1)).flatMap Mrk.cs = (mksD bs (p + 1 + 1) m0 (k + 1)).flatMap Mrk.cs ++ [.int .i64 (mkI bs (p + 1 + 1) m0 (k + 1)).at_, .int .i64 (mkI bs (p + 1 + 1) m0 (k + 1)).price] := by
        rw [mksD_succ, List.flatMap_append]
        simp [Mrk.cs]
      have hrep : List.replicate (k + 1) Ob.dead = List.replicate k Ob.dead ++ [.dead] := List.replicate_succ'
      obtain ⟨Dk, hDk⟩ : ∃ Dk : Hp, Dk = List.replicate k Ob.dead := ⟨_, rfl⟩
      have hDl : Dk.length = k := by rw [hDk, List.length_replicate]
      have hDm : ∀ x, x ∈ Dk → x = .dead := fun x hx => by rw [hDk] at hx; exact List.eq_of_mem_replicate hx
      rw [← hDk] at hrep
      have hob : ∀ x xs, ob (Dk ++ x :: xs) k = x := fun x xs => by
        rw [ob, List.getD_eq_getElem?_getD, List.getElem?_append_right (by omega), hDl, Nat.sub_self]
        rfl
      have hsD : ∀ x xs y, (Dk ++ x :: xs).set k y = Dk ++ y :: xs := fun x xs y => by
        rw [List.set_append_right _ _ (by omega), hDl, Nat.sub_self]
        rfl
      simp only [← hDk]
      rw [hI] at hs2
      simp only [hsucc]
      generalize hMk : mkI bs (p + 1 + 1) m0 k = M at hM hsucc hI hs2
      generalize hAe : (mksD bs (p + 1 + 1) m0 k).flatMap Mrk.cs = A at hA hsucc
      have hgt : ∀ x y : D, ((A ++ [x, y]).drop (k * 2)).headD .junk = x := fun x y => by rw [List.drop_left' (by omega)]; rfl
      have hAl : ∀ x y : D, (A ++ [x, y]).length = k * 2 + 2 := fun x y => by rw [List.length_append, hA]; rfl
      have w1 : IntKind.i64.wrap ((k : Int) + 1 - 1) = k := by rw [wrap_id (by omega) (by omega)]; omega
      have hrowcl : ∀ (cells : List Mrk), ∀ x, x ∈ Dk ++ [Ob.row (cells.flatMap Mrk.cs)] → ObCl (h.length + (Dk ++ [Ob.row (cells.flatMap Mrk.cs)]).length) x := fun cells x hx => by
        rcases List.mem_append.1 hx with hx | hx
        · rw [hDm x hx]; trivial
        · rw [List.mem_singleton.1 hx]; exact mks_cl _ _
      by_cases hlt : k < N
      · have hc : decide ((0 : Int) < (N : Int) - k) = true := decide_eq_true (by omega)
        have w2 : IntKind.i64.wrap ((N : Int) - k - 1) = (N : Int) - k - 1 := wrap_id (by omega) (by omega)
        have w3 : IntKind.i64.wrap (M.at_ + 1) = M.at_ + 1 := wrap_id (by omega) (by omega)
        have v1 := pickV_range (p := p + 1 + 1 + 2 * k) (H.up (by omega) (by omega)) 30 (by omega)
        have w4 : IntKind.i64.wrap (M.at_ + 1 + pickV bs (p + 1 + 1 + 2 * k) 30) = M.at_ + 1 + pickV bs (p + 1 + 1 + 2 * k) 30 := wrap_id (by omega) (by omega)
        try simp -implicitDefEqProofs only [hc, hob, hsD, hDl, w1, w2, w3, w4, hgt, hAl, r1, r2, r5, r6, r7, r8, List.length_set, List.set_set, push_cast, Nat.reduceEqDiff, Nat.reduceBEq, Nat.reduceBNe, Nat.reduceAdd, Nat.reduceMul, Nat.reduceLT, Nat.reduceLeDiff, Nat.reduceSub, reduceCtorEq, Int.reduceToNat, ↓reduceIte]
        repeat'
          (first
           | (refine uYes ?_; first | exact List.mem_cons_self | (simp only [List.mem_cons, List.not_mem_nil, or_false, true_or, or_true]; done))
           | (refine uNo (by kernel_rfl))
           | (refine flatMk ?_; kernel_rfl)
           | (refine And.intro ?_ ?_)
           | (intro hx)
           | ((first
               | (refine callGF ?_)
               | (refine callQGF ?_)
               | (refine skipG ?_)
               | (refine inX_mkG [r] [] (by kernel_rfl) (by kernel_rfl) (by simp; omega) ?_)
               | (refine callXR (dst := some 25) (r := r) (by simp) (by simp; omega) (fun h' hr' hl' => pick_gives bs _ _ r h' (hr'.trans (r3 _ _)) hl' (H.up (by omega) (by omega))) ?_)
               | (refine callXR (dst := some 28) (r := r) (by simp) (by simp; omega) (fun h' hr' hl' => pick_gives bs _ _ r h' (hr'.trans (r3 _ _)) hl' (H.up (by omega) (by omega))) ?_)); simp -implicitDefEqProofs only [hc, hob, hsD, hDl, w1, w2, w3, w4, hgt, hAl, r1, r2, r5, r6, r7, r8, List.length_set, List.set_set, push_cast, Nat.reduceEqDiff, Nat.reduceBEq, Nat.reduceBNe, Nat.reduceAdd, Nat.reduceMul, Nat.reduceLT, Nat.reduceLeDiff, Nat.reduceSub, reduceCtorEq, Int.reduceToNat, ↓reduceIte]))
        all_goals first
          | omega
          | (simp only [lenMax]; omega)
          | skip
        refine round_mkT (k + 1) (by omega) (by omega) ⟨⟨Dk ++ [.dead, .row ((mksD bs (p + 1 + 1) m0 (k + 1 + 1)).flatMap Mrk.cs)], ?_, ?_, ?_⟩, ?_, ?_, rdC_cl _ _ _, ?_⟩
        · have e1 : p + 1 + 1 + 2 * ((k + 1 : Nat) : Int) = p + 1 + 1 + 2 * k + 1 + 1 := by push_cast; omega
          rw [e1, hs2, hsucc]
          simp only [List.append_assoc, List.cons_append, List.nil_append]
        · rw [hrep]; simp
        · rw [hrep]
          simp only [List.append_assoc, List.cons_append, List.nil_append]
          exact List.take_length
        · rw [hrep]; simp
        · intro x hx
          rw [hrep] at hx
          rcases List.mem_append.1 hx with hx | hx
          · rcases List.mem_append.1 hx with hx | hx
            · rw [hDm x hx]; trivial
            · rw [List.mem_singleton.1 hx]; trivial
          · rw [List.mem_singleton.1 hx]; exact mks_cl _ _
        · rw [hrep]
          simp -implicitDefEqProofs only [SlotsOk, w2, hDl, List.length_append, List.length_cons, List.length_nil, Int.natCast_add, Int.cast_ofNat_Int, List.length_nil, Nat.le_refl, WeakTo, tokSts, tokOks, List.append_cancel_left_eq, exists_eq_left', exists_eq_left, List.append_cancel_left_eq, List.take_length, ObCl, and_true, true_and, push_cast, Nat.reduceEqDiff, Nat.reduceBEq, Nat.reduceBNe, Nat.reduceAdd, Nat.reduceMul, Nat.reduceLT, Nat.reduceLeDiff, Nat.reduceSub, reduceCtorEq, Int.reduceToNat, ↓reduceIte]
          omega
      · obtain rfl : k = N := by omega
        have hc : decide ((0 : Int) < (k : Int) - k) = false := decide_eq_false (by omega)
        rw [hMk] at hL
        subst hL
        by_cases hz : pickV bs (p + 1 + 1 + 2 * k) 16 = 0
        · rw [if_pos hz]
          have hst : ∀ x y z : D, (A ++ [x, y]).take (k * 2 + 1) ++ z :: (A ++ [x, y]).drop (k * 2 + 1 + 1) = A ++ [x, z] := fun x y z => by
            rw [show A ++ [x, y] = (A ++ [x]) ++ [y] by simp, List.take_left' (by rw [List.length_append, hA]; rfl), List.drop_eq_nil_of_le (by rw [List.length_append, List.length_append, hA]; simp)]
            simp
          have hfin : (mksD bs (p + 1 + 1) m0 k ++ [(⟨M.at_, 1000000⟩ : Mrk)]).flatMap Mrk.cs = A ++ [.int .i64 M.at_, .int .i64 1000000] := by
            rw [List.flatMap_append, hAe]
            simp [Mrk.cs]
          try simp -implicitDefEqProofs only [hc, w1, hob, hsD, hDl, hz, hgt, hAl, hst, hfin, r1, r2, r5, r6, r7, r8, List.length_set, List.set_set, push_cast, Nat.reduceEqDiff, Nat.reduceBEq, Nat.reduceBNe, Nat.reduceAdd, Nat.reduceMul, Nat.reduceLT, Nat.reduceLeDiff, Nat.reduceSub, reduceCtorEq, Int.reduceToNat, ↓reduceIte]
          repeat'
            (first
             | (refine uYes ?_; first | exact List.mem_cons_self | (simp only [List.mem_cons, List.not_mem_nil, or_false, true_or, or_true]; done))
             | (refine uNo (by kernel_rfl))
             | (refine flatMk ?_; kernel_rfl)
             | (refine And.intro ?_ ?_)
             | (intro hx)
             | ((first
                 | (refine callGF ?_)
                 | (refine callQGF ?_)
                 | (refine skipG ?_)
                 | (refine callM (dst := some 33) (pick_gives bs _ _ r _ (r3 _ _) (by simp; omega) (H.up (by omega) (by omega))) ?_)
                 | (refine callS (in_gives _ _ _ _) ?_)
                 | (refine callQ (in_gives _ _ _ _) ?_)
                 | (refine callG (fun hc => (in_gives _ _ _ _)) ?_)
                 | (refine callQG (fun hc => (in_gives _ _ _ _)) ?_)); simp -implicitDefEqProofs only [hc, w1, hob, hsD, hDl, hz, hgt, hAl, hst, hfin, r1, r2, r5, r6, r7, r8, List.length_set, List.set_set, push_cast, Nat.reduceEqDiff, Nat.reduceBEq, Nat.reduceBNe, Nat.reduceAdd, Nat.reduceMul, Nat.reduceLT, Nat.reduceLeDiff, Nat.reduceSub, reduceCtorEq, Int.reduceToNat, ↓reduceIte]))
          all_goals first
            | omega
            | (simp only [lenMax]; omega)
            | (simp only [List.length_replicate]; omega)
            | (rw [← hDk, ← hfin]
               exact back_rowsM hrl (rdC_cl _ _ _) _ (hrowcl _))
            | trace_state
        · rw [if_neg hz]
          have hz' : decide (pickV bs (p + 1 + 1 + 2 * k) 16 = 0) = false := decide_eq_false hz
          have hfin : (mksD bs (p + 1 + 1) m0 k ++ [(⟨M.at_, M.price⟩ : Mrk)]).flatMap Mrk.cs = A ++ [.int .i64 M.at_, .int .i64 M.price] := by
            rw [List.flatMap_append, hAe]
            simp [Mrk.cs]
          try simp -implicitDefEqProofs only [hc, w1, hob, hsD, hDl, hz', hfin, r1, r2, r5, r6, r7, r8, List.length_set, List.set_set, push_cast, Nat.reduceEqDiff, Nat.reduceBEq, Nat.reduceBNe, Nat.reduceAdd, Nat.reduceMul, Nat.reduceLT, Nat.reduceLeDiff, Nat.reduceSub, reduceCtorEq, Int.reduceToNat, ↓reduceIte]
          repeat'
            (first
             | (refine uYes ?_; first | exact List.mem_cons_self | (simp only [List.mem_cons, List.not_mem_nil, or_false, true_or, or_true]; done))
             | (refine uNo (by kernel_rfl))
             | (refine flatMk ?_; kernel_rfl)
             | (refine And.intro ?_ ?_)
             | (intro hx)
             | ((first
                 | (refine callGF ?_)
                 | (refine callQGF ?_)
                 | (refine skipG ?_)
                 | (refine callM (dst := some 33) (pick_gives bs _ _ r _ (r3 _ _) (by simp; omega) (H.up (by omega) (by omega))) ?_)
                 | (refine callS (in_gives _ _ _ _) ?_)
                 | (refine callQ (in_gives _ _ _ _) ?_)
                 | (refine callG (fun hc => (in_gives _ _ _ _)) ?_)
                 | (refine callQG (fun hc => (in_gives _ _ _ _)) ?_)); simp -implicitDefEqProofs only [hc, w1, hob, hsD, hDl, hz', hfin, r1, r2, r5, r6, r7, r8, List.length_set, List.set_set, push_cast, Nat.reduceEqDiff, Nat.reduceBEq, Nat.reduceBNe, Nat.reduceAdd, Nat.reduceMul, Nat.reduceLT, Nat.reduceLeDiff, Nat.reduceSub, reduceCtorEq, Int.reduceToNat, ↓reduceIte]))
          all_goals first
            | omega
            | (simp only [lenMax]; omega)
            | (simp only [List.length_replicate]; omega)
            | (rw [← hDk, ← hfin]
               exact back_rowsM hrl (rdC_cl _ _ _) _ (hrowcl _))
            | trace_state
  · have := ob_app (h.set r (.row (rdC bs (p + 1 + 1 + 2 * N + 1)))) (List.replicate N .dead ++ [.row ((mksD bs (p + 1 + 1) m0 N ++ [(⟨L.at_, if pickV bs (p + 1 + 1 + 2 * N) 16 = 0 then 1000000 else L.price⟩ : Mrk)]).flatMap Mrk.cs)]) N
    rw [List.length_set] at this
    rw [this, ob, List.getD_eq_getElem?_getD, List.getElem?_append_right (by simp), List.length_replicate, Nat.sub_self]
    rfl
  · rw [List.length_append, mksD_len, List.length_singleton]
end Go.Proofs.Ytcmpcpigchlhpaa
