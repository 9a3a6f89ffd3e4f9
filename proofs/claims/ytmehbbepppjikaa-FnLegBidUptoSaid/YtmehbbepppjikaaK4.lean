/- Contracts of functions of the program (K4). -/
import Derived.Test.YtmehbbepppjikaaK3

namespace Go.Proofs.Ytmehbbepppjikaa
open Go.Av
set_option maxRecDepth 10000
set_option linter.unusedSimpArgs false
set_option linter.unusedVariables false

theorem fwl_of {n : Nat} {h : Hp} : ∀ {cs cs' : List D}, cs'.length = cs.length → (∀ j (h1 : j < cs.length) (h2 : j < cs'.length), FW n h (cs[j]) (cs'[j])) → FWL n h cs cs'
  | [], [], _, _ => trivial
  | [], _ :: _, hl, _ => absurd hl (by simp)
  | _ :: _, [], hl, _ => absurd hl (by simp)
  | a :: cs, b :: bs, hl, H => ⟨H 0 (by simp) (by simp), fwl_of (by simpa using hl) (fun j h1 h2 => H (j + 1) (by simpa using h1) (by simpa using h2))⟩
/-- a row seen as the slice of its first elements -/
theorem fw_row {α : Type} {g : α → D} {f : α → List D} {ag : Bool} {m : Nat} (hm : 0 < m) (hf : ∀ x, (g x).cells = f x) (hl : ∀ x, (f x).length = m) (hg : ∀ x, (if ag then D.agg (f x) else (f x).headD .junk) = g x) (h1 : ag = false → m = 1 ∧ ∀ x d, d ∈ f x → d.cells = [d]) (hc : ∀ x d, d ∈ f x → Cl 0 d)
    {n : Nat} {h : Hp} {r : Nat} {xs : List α} {rest : List D} {k cp : Nat} (hn : n ≤ r) (hr : ob h r = .row (xs.flatMap f ++ rest)) (hk : k = xs.length) : FW n h (.vec r ag m 0 k cp) (.slice (xs.map g) .no) := by
  subst hk
  have hlen : (xs.flatMap f).length = xs.length * m := flatMap_length hl xs
  have hp : rowPart h r m 0 xs.length = xs.flatMap f := by
    simp only [rowPart, hr, rowOf, Nat.zero_mul, List.drop_zero]
    rw [List.take_append_of_le_length (by omega), List.take_of_length_le (by omega)]
  refine (fw_vec _ _ _ _ _ _ _ _ _).2 ⟨⟨hn, by rw [hr]; trivial, ?_, ?_, hm, fun e => ⟨(h1 e).1, ?_⟩⟩, ?_⟩
  · rw [hr, Nat.zero_add]
    simp only [rowOf, List.length_append, hlen]
    omega
  · rw [hp]
    intro d hd
    obtain ⟨x, _, hd⟩ := List.mem_flatMap.1 hd
    exact hc x d hd
  · rw [hp]
    intro d hd
    obtain ⟨x, _, hd⟩ := List.mem_flatMap.1 hd
    exact (h1 e).2 x d hd
  · rw [hp]
    have := chunk_map (g := g) (ag := ag) (m := m) hm (fun x => by rw [hf]; exact hg x) (fun x => by rw [hf]; exact hl x) xs _ rfl
    simpa only [hf] using this
theorem fw_ints {n : Nat} {h : Hp} {r : Nat} {xs : List Int} {k cp : Nat} (hn : n ≤ r) (hr : ob h r = .row (xs.map (.int .i64))) (hk : k = xs.length) : FW n h (.vec r false 1 0 k cp) (.slice (xs.map (.int .i64)) .no) := by
  refine fw_row (ag := false) (m := 1) (g := D.int .i64) (f := fun x => [D.int .i64 x]) (rest := []) (by omega) (fun _ => rfl) (fun _ => rfl) (fun _ => rfl) (fun _ => ⟨rfl, fun x d hd => ?_⟩) (fun x d hd => ?_) hn ?_ hk
  · rw [List.mem_singleton.1 hd]; rfl
  · rw [List.mem_singleton.1 hd]; exact .int _ _
  · rw [hr, List.append_nil, List.map_eq_flatMap]
theorem fw_holds {n : Nat} {h : Hp} {r : Nat} {xs : List Hold} {rest : List D} {k cp : Nat} (hn : n ≤ r) (hr : ob h r = .row (xs.flatMap Hold.cs ++ rest)) (hk : k = xs.length) : FW n h (.vec r true 3 0 k cp) (.slice (xs.map Hold.d) .no) := by
  refine fw_row (ag := true) (m := 3) (g := Hold.d) (f := Hold.cs) (by omega) (fun _ => rfl) (fun _ => rfl) (fun _ => rfl) (fun e => nomatch e) (fun x d hd => ?_) hn hr hk
  simp only [Hold.cs, List.mem_cons, List.not_mem_nil, or_false] at hd
  rcases hd with rfl | rfl | rfl <;> exact .int _ _

/-- a leg in row r, its slices in the rows from q on -/
structure LegAt (h : Hp) (q : Nat) (l : Leg) : Prop where
  limits : ob h q = .row (l.limits.map (.int .i64))
  sold : ob h (q + 1) = .row (l.sold.map (.int .i64))
  bids : ob h (q + 2) = .row (l.bids.map (.int .i64))
  holds : ob h (q + 3) = .row (l.holds.flatMap Hold.cs)
  lt : q + 3 < h.length
theorem LegAt.fw {h : Hp} {q : Nat} {l : Leg} (H : LegAt h q l) : FW 0 h (.agg (l.dvc q)) l.d :=
  (fw_agg _ _ _ _).2 ⟨fw_refl _ _ _, fw_refl _ _ _, fw_refl _ _ _, fw_refl _ _ _, fw_refl _ _ _, fw_refl _ _ _, fw_ints (Nat.zero_le _) H.limits rfl, fw_ints (Nat.zero_le _) H.sold rfl, fw_ints (Nat.zero_le _) H.bids rfl, fw_holds (rest := []) (Nat.zero_le _) (by rw [List.append_nil]; exact H.holds) rfl, trivial⟩
theorem Leg.cl0 (l : Leg) (n : Nat) : Cl n l.d := .agg _ (l.cl n)

theorem holds_nm (xs : List Hold) (n : Nat) : ∀ x, x ∈ [Ob.row (xs.flatMap Hold.cs)] → NMob n x := by
  intro x hx
  rw [List.mem_singleton.1 hx]
  intro c hc
  obtain ⟨x, _, hd⟩ := List.mem_flatMap.1 hc
  simp only [Hold.cs, List.mem_cons, List.not_mem_nil, or_false] at hd
  rcases hd with rfl | rfl | rfl <;> exact .int _ _
theorem dropR_none (l : Leg) (r q : Nat) (n : Int) (keep : Bool) (h : Hp) (hr : ob h r = .row (l.dvc q)) (hrl : r < h.length) (H : LegAt h q l) (hn : heldIdx l n < 0) :
    Gives Try.prog 128 [.ptr r 0, .int .i64 n, .bool keep] h (.tup []) := by
  refine meets_of [] mixed Try.func128 rfl (by kernel_rfl) (by kernel_rfl) (by rw [Try.ntmps128]; simp only [List.length_cons, List.length_nil]; omega) (fun hf => ?_)
  rw [Try.results128]
  clear hf
  have hd : decide (heldIdx l n < 0) = true := decide_eq_true hn
  simp only [Leg.dvc] at hr
  try simp -implicitDefEqProofs only [hr, hd, push_cast, Nat.reduceEqDiff, Nat.reduceBEq, Nat.reduceBNe, Nat.reduceAdd, Nat.reduceMul, Nat.reduceLT, Nat.reduceLeDiff, Nat.reduceSub, reduceCtorEq, Int.reduceToNat, ↓reduceIte]
  repeat'
    (first
     | (refine uYes ?_; first | exact List.mem_cons_self | (simp only [List.mem_cons, List.not_mem_nil, or_false, true_or, or_true]; done))
     | (refine uNo (by kernel_rfl))
     | (refine flatMk ?_; kernel_rfl)
     | (refine And.intro ?_ ?_)
     | (intro hx)
     | ((first
         | (refine callGF ?_)
         | (refine callQGF ?_)
         | (refine skipG ?_)
         | (refine fzS (held_gives l n _) ⟨H.fw, l.cl0 0, fw_refl _ _ _, .int _ _, trivial⟩ (.int _ _) ?_)); simp -implicitDefEqProofs only [hr, hd, push_cast, Nat.reduceEqDiff, Nat.reduceBEq, Nat.reduceBNe, Nat.reduceAdd, Nat.reduceMul, Nat.reduceLT, Nat.reduceLeDiff, Nat.reduceSub, reduceCtorEq, Int.reduceToNat, ↓reduceIte]))
  all_goals first
    | omega
    | trace_state

/-- what is left of a leg in which what is held for a transaction is settled -/
def soldV (l : Leg) (k : Nat) (keep : Bool) : List Int := if keep then l.sold.set (l.holds.getD k default).cls.toNat (IntKind.i64.wrap (l.sold.getD (l.holds.getD k default).cls.toNat 0 + (l.holds.getD k default).seats)) else l.sold
theorem old_set {h hb : Hp} {N : Nat} (H : ∀ (k : Nat) y, hb[k]? = some y → h[k]? = some y ∨ ObCl N y) (a : Nat) {x : Ob} (hx : ObCl N x) : ∀ (k : Nat) y, (hb.set a x)[k]? = some y → h[k]? = some y ∨ ObCl N y := by
  intro k y hy
  rw [List.getElem?_set] at hy
  split at hy
  · split at hy
    · cases hy; exact .inr hx
    · cases hy
  · exact H k y hy
theorem back_mod {h hb rows : Hp} (hl : hb.length = h.length) (H : ∀ (k : Nat) y, hb[k]? = some y → h[k]? = some y ∨ ObCl (h.length + rows.length) y) (hr : ∀ x, x ∈ rows → ObCl (h.length + rows.length) x) : Back h (hb ++ rows) (hb ++ rows) := by
  refine ⟨by simp; omega, Nat.le_refl _, List.take_length, fun k x hx => ?_⟩
  rw [List.length_append, hl]
  by_cases hk : k < hb.length
  · rw [List.getElem?_append_left hk] at hx
    exact H k x hx
  · rw [List.getElem?_append_right (by omega)] at hx
    exact .inr (hr x (List.mem_of_getElem? hx))
theorem old_id (h : Hp) (N : Nat) : ∀ (k : Nat) y, h[k]? = some y → h[k]? = some y ∨ ObCl N y := fun _ _ e => .inl e
theorem ob_set_eq {h : Hp} {r : Nat} (hr : r < h.length) (x : Ob) : ob (h.set r x) r = x := by simp [ob, List.getD_eq_getElem?_getD, hr]
theorem ob_set_ne {h : Hp} {r s : Nat} (hr : s ≠ r) (x : Ob) : ob (h.set s x) r = ob h r := by simp only [ob, List.getD_eq_getElem?_getD, List.getElem?_set_ne hr]
theorem ob_app_l {h : Hp} {r : Nat} (hr : r < h.length) (ls : Hp) : ob (h ++ ls) r = ob h r := by simp only [ob, List.getD_eq_getElem?_getD, List.getElem?_append_left hr]

theorem hold_part (xs : List Hold) {k : Nat} (hk : k < xs.length) : ((xs.flatMap Hold.cs).drop (k * 3)).take 3 = (xs.getD k default).cs := by
  have hlk : ((xs.take k).flatMap Hold.cs).length = k * 3 := by rw [flatMap_length (f := Hold.cs) (m := 3) (fun _ => rfl), List.length_take]; congr 1; omega
  have hs : xs.flatMap Hold.cs = (xs.take k).flatMap Hold.cs ++ (xs[k].cs ++ (xs.drop (k + 1)).flatMap Hold.cs) := by
    conv => lhs; rw [← List.take_append_drop k xs, List.drop_eq_getElem_cons hk]
    rw [List.flatMap_append, List.flatMap_cons]
  rw [hs, List.drop_append, List.drop_eq_nil_of_le (by omega), List.nil_append, hlk, Nat.sub_self, List.drop_zero, List.take_append_of_le_length (by exact Nat.le_refl _), List.take_of_length_le (by exact Nat.le_refl _), List.getD_eq_getElem?_getD, List.getElem?_eq_getElem hk]
  rfl
theorem int_part (xs : List Int) {k : Nat} (hk : k < xs.length) : ((xs.drop k).map (D.int .i64)).headD .junk = .int .i64 (xs.getD k 0) := by
  rw [List.drop_eq_getElem_cons hk]
  simp [List.getD_eq_getElem?_getD, List.getElem?_eq_getElem hk]
theorem int_splice (xs : List Int) {k : Nat} (hk : k < xs.length) (n : Int) : (xs.take k).map (D.int .i64) ++ D.int .i64 n :: (xs.drop (k + 1)).map (D.int .i64) = (xs.set k n).map (D.int .i64) := by
  rw [← List.map_cons, ← List.map_append, List.set_eq_take_append_cons_drop, if_pos hk]

theorem cl_ints (xs : List Int) (n : Nat) : ObCl n (.row (xs.map (.int .i64))) := by
  intro c hc
  obtain ⟨x, _, rfl⟩ := List.mem_map.1 hc
  exact .int _ _
theorem cl_holds (xs : List Hold) (n : Nat) : ObCl n (.row (xs.flatMap Hold.cs)) := by
  intro c hc
  obtain ⟨x, _, hd⟩ := List.mem_flatMap.1 hc
  simp only [Hold.cs, List.mem_cons, List.not_mem_nil, or_false] at hd
  rcases hd with rfl | rfl | rfl <;> exact .int _ _
theorem cl_holds' (xs : List Hold) (n : Nat) (a b c : Int) : ObCl n (.row (xs.flatMap Hold.cs ++ [.int .i64 a, .int .i64 b, .int .i64 c])) := by
  intro d hd
  rcases List.mem_append.1 hd with hd | hd
  · exact cl_holds xs n d hd
  · simp only [List.mem_cons, List.not_mem_nil, or_false] at hd
    rcases hd with rfl | rfl | rfl <;> exact .int _ _
theorem cl_leg {n : Nat} (l : Leg) {a b c d : Nat} {x1 x2 y1 y2 z1 z2 w1 w2 : Nat} (ha : a < n) (hb : b < n) (hc : c < n) (hd : d < n) : ObCl n (.row [.str l.name, .str l.src, .str l.dst, .int .i64 l.dep, .int .i64 l.arr, .int .i64 l.cap, .vec a false 1 0 x1 x2, .vec b false 1 0 y1 y2, .vec c false 1 0 z1 z2, .vec d true 3 0 w1 w2]) := by
  intro e he
  simp only [List.mem_cons, List.not_mem_nil, or_false] at he
  rcases he with rfl | rfl | rfl | rfl | rfl | rfl | rfl | rfl | rfl | rfl
  · exact .str _
  · exact .str _
  · exact .str _
  · exact .int _ _
  · exact .int _ _
  · exact .int _ _
  · exact .vec _ _ _ _ _ _ ha
  · exact .vec _ _ _ _ _ _ hb
  · exact .vec _ _ _ _ _ _ hc
  · exact .vec _ _ _ _ _ _ hd
theorem back_drop {h h0 : Hp} {r q k : Nat} {l : Leg} {rw : List D} (hd : Hold) (xs : List Hold) (hrw : ObCl (h.length + 2) (.row rw)) (h0l : h0.length = h.length) (h00 : ∀ (k : Nat) y, h0[k]? = some y → h[k]? = some y ∨ ObCl (h.length + 2) y) :
    Back h (((h0.set (q + 3) (.row (xs.flatMap Hold.cs ++ [.int .i64 0, .int .i64 0, .int .i64 0]))).set r (.row rw)) ++ [.row hd.cs, .row (xs.flatMap Hold.cs)]) (((h0.set (q + 3) (.row (xs.flatMap Hold.cs ++ [.int .i64 0, .int .i64 0, .int .i64 0]))).set r (.row rw)) ++ [.row hd.cs, .row (xs.flatMap Hold.cs)]) := by
  refine back_mod (by simp [h0l]) (old_set (old_set h00 _ (cl_holds' _ _ _ _ _)) _ hrw) fun x hx => ?_
  simp only [List.mem_cons, List.not_mem_nil, or_false] at hx
  rcases hx with rfl | rfl
  · intro c hc
    simp only [Hold.cs, List.mem_cons, List.not_mem_nil, or_false] at hc
    rcases hc with rfl | rfl | rfl <;> exact .int _ _
  · exact cl_holds _ _

theorem dropR_some (l : Leg) (r q k : Nat) (n : Int) (keep : Bool) (h : Hp) (hr : ob h r = .row (l.dvc q)) (hrl : r < h.length) (H : LegAt h q l) (hrq : r < q ∨ q + 3 < r) (hn : heldIdx l n = k) (hk : k < l.holds.length) (hc : 0 ≤ (l.holds.getD k default).cls ∧ (l.holds.getD k default).cls < l.sold.length) (hh : l.holds.length ≤ 1073741824) :
    Meets Try.prog 128 [.ptr r 0, .int .i64 n, .bool keep] h fun d' h' => d' = .tup [] ∧
      h' = (((if keep then h.set (q + 1) (.row ((soldV l k keep).map (.int .i64))) else h).set (q + 3) (.row ((l.holds.eraseIdx k).flatMap Hold.cs ++ [.int .i64 0, .int .i64 0, .int .i64 0]))).set r (.row (splice (l.dvc q) 9 [.vec (h.length + 1) true 3 0 (l.holds.length - 1) (l.holds.length - 1)]))) ++
        [.row (l.holds.getD k default).cs, .row ((l.holds.eraseIdx k).flatMap Hold.cs)] := by
  refine meets_of [] mixed Try.func128 rfl (by kernel_rfl) (by kernel_rfl) (by rw [Try.ntmps128]; simp only [List.length_cons, List.length_nil]; omega) (fun hf => ?_)
  rw [Try.results128]
  clear hf
  have hd : decide (heldIdx l n < 0) = false := decide_eq_false (by omega)
  have hlen : (l.holds.flatMap Hold.cs).length = l.holds.length * 3 := flatMap_length (f := Hold.cs) (m := 3) (fun _ => rfl) _
  have hl1 := H.lt
  have hh0 := H.holds
  have hs0 := H.sold
  have hw : IntKind.i64.wrap ((k : Int) + 1) = k + 1 := wrap_id (by omega) (by omega)
  have helt := hold_part l.holds hk
  have hE : k + (l.holds.length - (k + 1)) = l.holds.length - 1 := by omega
  have hel : (l.holds.eraseIdx k).length = l.holds.length - 1 := by rw [List.length_eraseIdx, if_pos hk]
  have hcn : (l.holds.getD k default).cls.toNat < l.sold.length := by omega
  have hip := int_part l.sold hcn
  have his := fun v => int_splice l.sold hcn v
  have hrx := hr
  simp only [Leg.dvc] at hr
  have a1 : ∀ ls, ob (h ++ ls) r = ob h r := ob_app_l hrl
  have a2 : ∀ ls, ob (h ++ ls) (q + 1) = ob h (q + 1) := ob_app_l (by omega)
  have a3 : ∀ ls, ob (h ++ ls) (q + 3) = ob h (q + 3) := ob_app_l (by omega)
  have s1 : ∀ ls x, (h ++ ls).set (q + 1) x = h.set (q + 1) x ++ ls := fun ls x => List.set_append_left _ _ (by omega)
  have s3 : ∀ (h' : Hp) ls x, h'.length = h.length → (h' ++ ls).set (q + 3) x = h'.set (q + 3) x ++ ls := fun h' ls x e => List.set_append_left _ _ (by omega)
  cases keep with
  | true =>
    have b1 : ∀ x ls, ob (h.set (q + 1) x ++ ls) r = ob h r := fun x ls => by rw [ob_app_l (by simp; omega), ob_set_ne (by omega)]
    have b3 : ∀ x ls, ob (h.set (q + 1) x ++ ls) (q + 3) = ob h (q + 3) := fun x ls => by rw [ob_app_l (by simp; omega), ob_set_ne (by omega)]
    have c1 : ∀ x y ls, ob ((h.set (q + 1) x).set (q + 3) y ++ ls) r = ob h r := fun x y ls => by rw [ob_app_l (by simp; omega), ob_set_ne (by omega), ob_set_ne (by omega)]
    have c3 : ∀ x y ls, ob ((h.set (q + 1) x).set (q + 3) y ++ ls) (q + 3) = y := fun x y ls => by rw [ob_app_l (by simp; omega), ob_set_eq (by simp; omega)]
    have t3 : ∀ x y ls, (h.set (q + 1) x ++ ls).set (q + 3) y = (h.set (q + 1) x).set (q + 3) y ++ ls := fun x y ls => List.set_append_left _ _ (by simp; omega)
    have t5 : ∀ x y z ls, ((h.set (q + 1) x).set (q + 3) y ++ ls).set r z = ((h.set (q + 1) x).set (q + 3) y).set r z ++ ls := fun x y z ls => List.set_append_left _ _ (by simp; omega)
    try simp -implicitDefEqProofs only [hr, hd, hh0, hs0, hlen, hn, helt, hw, hE, hel, hip, his, a1, a2, a3, s1, b1, b3, c1, c3, t3, t5, List.length_set, push_cast, Nat.reduceEqDiff, Nat.reduceBEq, Nat.reduceBNe, Nat.reduceAdd, Nat.reduceMul, Nat.reduceLT, Nat.reduceLeDiff, Nat.reduceSub, reduceCtorEq, Int.reduceToNat, ↓reduceIte]
    repeat'
      (first
       | (refine uYes ?_; first | exact List.mem_cons_self | (simp only [List.mem_cons, List.not_mem_nil, or_false, true_or, or_true]; done))
       | (refine uNo (by kernel_rfl))
       | (refine flatMk ?_; kernel_rfl)
       | (refine And.intro ?_ ?_)
       | (intro hx)
       | ((first
           | (refine inX_mk [] (by kernel_rfl) (by simp) ?_)
           | (refine callGF ?_)
           | (refine callQGF ?_)
           | (refine skipG ?_)
           | (refine fzS (held_gives l n _) ⟨H.fw, l.cl0 0, fw_refl _ _ _, .int _ _, trivial⟩ (.int _ _) ?_)
           | (refine callM (deleteR l.holds k (q + 3) l.holds.length _ (by rw [b3]; exact hh0) (by simp; omega) hk (Nat.le_refl _) hh) ?_)
           | (refine fzM (hcloneR (l.holds.eraseIdx k) (deadOf _) (deadOf_length _)) ⟨fw_holds (rest := [.int .i64 0, .int .i64 0, .int .i64 0]) (Nat.zero_le _) (c3 _ _ _) hel.symm, .slice _ _ (fun _ _ e => nomatch e), trivial⟩ (.vec _ _ _ _ _ _ (Nat.le_refl _)) (holds_nm _ _) ?_)); simp -implicitDefEqProofs only [hr, hd, hh0, hs0, hlen, hn, helt, hw, hE, hel, hip, his, a1, a2, a3, s1, b1, b3, c1, c3, t3, t5, List.length_set, push_cast, Nat.reduceEqDiff, Nat.reduceBEq, Nat.reduceBNe, Nat.reduceAdd, Nat.reduceMul, Nat.reduceLT, Nat.reduceLeDiff, Nat.reduceSub, reduceCtorEq, Int.reduceToNat, ↓reduceIte]))
    all_goals first
      | omega
      | exact back_drop (l := l) (k := k) (l.holds.getD k default) (l.holds.eraseIdx k) (cl_leg l (by omega) (by omega) (by omega) (by omega)) (by simp) (old_set (old_id h _) _ (cl_ints _ _))
      | trace_state
  | false =>
    have g1 : ∀ y ls, ob (h.set (q + 3) y ++ ls) r = ob h r := fun y ls => by rw [ob_app_l (by simp; omega), ob_set_ne (by omega)]
    have g3 : ∀ y ls, ob (h.set (q + 3) y ++ ls) (q + 3) = y := fun y ls => by rw [ob_app_l (by simp; omega), ob_set_eq (by omega)]
    have u3 : ∀ y ls, (h ++ ls).set (q + 3) y = h.set (q + 3) y ++ ls := fun y ls => List.set_append_left _ _ (by omega)
    have u5 : ∀ y z ls, (h.set (q + 3) y ++ ls).set r z = (h.set (q + 3) y).set r z ++ ls := fun y z ls => List.set_append_left _ _ (by simp; omega)
    try simp -implicitDefEqProofs only [hr, hd, hh0, hs0, hlen, hn, helt, hw, hE, hel, hip, his, a1, a2, a3, g1, g3, u3, u5, List.length_set, push_cast, Nat.reduceEqDiff, Nat.reduceBEq, Nat.reduceBNe, Nat.reduceAdd, Nat.reduceMul, Nat.reduceLT, Nat.reduceLeDiff, Nat.reduceSub, reduceCtorEq, Int.reduceToNat, ↓reduceIte]
    repeat'
      (first
       | (refine uYes ?_; first | exact List.mem_cons_self | (simp only [List.mem_cons, List.not_mem_nil, or_false, true_or, or_true]; done))
       | (refine uNo (by kernel_rfl))
       | (refine flatMk ?_; kernel_rfl)
       | (refine And.intro ?_ ?_)
       | (intro hx)
       | ((first
           | (refine inX_mk [] (by kernel_rfl) (by simp) ?_)
           | (refine callGF ?_)
           | (refine callQGF ?_)
           | (refine skipG ?_)
           | (refine fzS (held_gives l n _) ⟨H.fw, l.cl0 0, fw_refl _ _ _, .int _ _, trivial⟩ (.int _ _) ?_)
           | (refine callM (deleteR l.holds k (q + 3) l.holds.length _ (by rw [a3]; exact hh0) (by simp; omega) hk (Nat.le_refl _) hh) ?_)
           | (refine fzM (hcloneR (l.holds.eraseIdx k) (deadOf _) (deadOf_length _)) ⟨fw_holds (rest := [.int .i64 0, .int .i64 0, .int .i64 0]) (Nat.zero_le _) (g3 _ _) hel.symm, .slice _ _ (fun _ _ e => nomatch e), trivial⟩ (.vec _ _ _ _ _ _ (Nat.le_refl _)) (holds_nm _ _) ?_)); simp -implicitDefEqProofs only [hr, hd, hh0, hs0, hlen, hn, helt, hw, hE, hel, hip, his, a1, a2, a3, g1, g3, u3, u5, List.length_set, push_cast, Nat.reduceEqDiff, Nat.reduceBEq, Nat.reduceBNe, Nat.reduceAdd, Nat.reduceMul, Nat.reduceLT, Nat.reduceLeDiff, Nat.reduceSub, reduceCtorEq, Int.reduceToNat, ↓reduceIte]))
    all_goals first
      | omega
      | exact back_drop (l := l) (k := k) (l.holds.getD k default) (l.holds.eraseIdx k) (cl_leg l (by omega) (by omega) (by omega) (by omega)) rfl (old_id h _)
      | trace_state
end Go.Proofs.Ytmehbbepppjikaa
