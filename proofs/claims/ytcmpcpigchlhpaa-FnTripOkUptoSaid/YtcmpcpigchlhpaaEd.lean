/- Code: sequences, tests, blocks, loops; a function's contract out of its body. -/
import Derived.Test.YtcmpcpigchlhpaaEc
import Derived.ChangeArms
import Derived.Carry
import Derived.WideShapes
import Derived.OpenVars
import Derived.ChangeShapes
import Derived.RowKit

namespace Go.Av
set_option linter.unusedSectionVars false
variable [Start]

def thenE (next : St → Prop) (Q : Exit → St → Prop) : Exit → St → Prop
  | .normal, st => next st
  | e, st => Q e st
def blockE (id : Nat) (Q : Exit → St → Prop) : Exit → St → Prop
  | .exit id', st => if id' = id then Q .normal st else Q (.exit id') st
  | e, st => Q e st

/-- st'' may be seen as st0, whose objects are the first of st'''s; 'st' is a state ahead, of fewer objects or as many, out of which what has not turned is known to be closed. -/
structure Weak (st st'' st0 : St) : Prop where
  le : st.h.length ≤ st0.h.length
  le' : st0.h.length ≤ st''.h.length
  heap : st''.h.take st0.h.length = st0.h
  ob : ∀ (r : Nat) x, st0.h[r]? = some x → st.h[r]? = some x ∨ ObCl st0.h.length x
  fr : ∀ t, (st0.fr t = st.fr t ∧ st''.fr t = st.fr t) ∨ (Wk (st''.fr t) (st0.fr t) ∧ Cl st0.h.length (st0.fr t))

/-- A full slice gets a buffer of its own. -/
def tokSt (st : St) (p : Nat × Nat) : St :=
  match st.fr p.1 with
  | .slice es .full => ⟨put st.fr p.1 (.slice es (.buf st.h.length p.2)), st.h ++ [.buf (es.length * p.2)]⟩
  | _ => st
def tokOk (st : St) (p : Nat × Nat) : Prop :=
  match st.fr p.1 with
  | .slice es .full => AllSz p.2 es
  | _ => True
def tokSts (st : St) : List (Nat × Nat) → St
  | [] => st
  | p :: ps => tokSts (tokSt st p) ps
def tokOks (st : St) : List (Nat × Nat) → Prop
  | [] => True
  | p :: ps => tokOk st p ∧ tokOks (tokSt st p) ps

/-- An empty slice becomes a row of its own; a row goes behind all others. -/
def vtSt (st : St) (p : Nat × Bool × Nat) : St :=
  match st.fr p.1 with
  | .slice [] .full => ⟨put st.fr p.1 (.vec st.h.length p.2.1 p.2.2 0 0 0), st.h ++ [.row []]⟩
  | .vec r ag sz off len cp =>
    match ob st.h r with
    | .row cs => ⟨put st.fr p.1 (.vec st.h.length ag sz off len cp), st.h.set r .dead ++ [.row cs]⟩
    | _ => st
  | _ => st
def vtSts (st : St) : List (Nat × Bool × Nat) → St
  | [] => st
  | p :: ps => vtSts (vtSt st p) ps

/-- st'' may be seen as st0: of its objects some, behind the first n0 or more, are left out. -/
structure Cpt (n0 : Nat) (st'' st0 : St) : Prop where
  ex : ∃ hb junk rows1 rows2 : Hp, n0 ≤ hb.length ∧ st''.h = hb ++ (junk ++ rows1) ∧ st0.h = hb ++ rows2 ∧ (∀ (r : Nat) x, hb[r]? = some x → ObCl hb.length x) ∧ rows2.length = rows1.length ∧
    (∀ j (h1 : j < rows1.length) (h2 : j < rows2.length), RenOb hb.length junk.length (rows1[j]) (rows2[j])) ∧
    ∀ t, (∃ d1, Ren hb.length junk.length (st''.fr t) d1 ∧ Wk d1 (st0.fr t)) ∨ (Wk (st''.fr t) (st0.fr t) ∧ Cl hb.length (st0.fr t))

/-- A round has ended well. -/
def RoundOk (n0 : Nat) (I : Nat → St → Prop) (m : Nat) (st' st'' : St) : Prop := ∃ m' st0, m' < m ∧ I m' st0 ∧ (Weak st' st'' st0 ∨ Cpt n0 st'' st0)

def loopGo (body : St → (Exit → St → Prop) → Prop) (Q : Exit → St → Prop) (st : St) : Prop :=
  ∃ (vts : List (Nat × Bool × Nat)) (toks : List (Nat × Nat)) (I : Nat → St → Prop), tokOks (vtSts st vts) toks ∧ (∃ m st0, I m st0 ∧ Weak (tokSts (vtSts st vts) toks) (tokSts (vtSts st vts) toks) st0) ∧
    ∀ m st', I m st' → body st' (thenE (RoundOk st.h.length I m st') Q)

def ev (P : Program) (mu : List Nat) : Code → (Exit → St → Prop) → St → Prop
  | .skip, Q, st => Q .normal st
  | .label _, Q, st => Q .normal st
  | .region id ops draw, Q, st => if draw then (if hasStore ops.toList || mu.contains (1000000 + id) then InX P ops.toList st (Q .normal) else evQs P ops.toList ops.toList st (Q .normal)) else evOps P mu ops.toList ops.toList st (Q .normal)
  | .seq a b, Q, st => ev P mu a (thenE (ev P mu b Q) Q) st
  | .cond c a b, Q, st => ok1 st.fr c ∧ isBool (vl st.fr c) ∧ (bof (vl st.fr c) = true → ev P mu a Q st) ∧ (bof (vl st.fr c) = false → ev P mu b Q st)
  | .block id c, Q, st => ev P mu c (blockE id Q) st
  | .exit id, Q, st => Q (.exit id) st
  | .ret, Q, st => Q .ret st
  | .loop c, Q, st => loopGo (fun st' Q' => ev P mu c Q' st') Q st
  | _, _, _ => False

/-- What is asked of the code alone: it writes no slot that is not there, and its regions that draw can be taken in the order of the text. -/
def fits (n : Nat) : Code → Bool
  | .region _ ops draw => ops.toList.all (dstOk n) && (!draw || Region.lexB .any ops)
  | .seq a b => fits n a && fits n b
  | .cond _ a b => fits n a && fits n b
  | .block _ c => fits n c
  | .loop c => fits n c
  | _ => true

section
variable {P : Program} {n : Nat}

theorem tok_sound {w : World} {σ : Sg} {a : Act} {st : St} {p : Nat × Nat} (H : Cnc n w σ a st) (hk : tokOk st p) : ∃ σ', Cnc n w σ' a (tokSt st p) ∧ Step w σ st.h w σ' (tokSt st p).h := by
  unfold tokOk at hk
  unfold tokSt
  split
  · rename_i es he
    simp only [he] at hk
    obtain ⟨g1, g2⟩ := inv_add H.inv (Adds.refl w) none (.buf (es.length * p.2)) (fun b e => by cases e) (fun cs e => by cases e)
    refine ⟨_, ⟨g1, H.defers, H.size, fun t => ?_⟩, g2⟩
    simp only [put]
    split
    · rename_i e
      subst e
      have hr := (H.fr p.1).step g2
      rw [he] at hr
      have hfl := flat_length hk
      generalize a.tmps.getD p.1 undef = v at hr
      cases hr with
      | slice _ _ a cap vs hlen hcap hf htok hc hrr =>
        refine .slice es _ a cap vs hlen hcap trivial (fun r sz e => ?_) hc hrr
        cases e
        refine ⟨by simp, hfl, fun m hm => ?_⟩
        rw [List.getElem?_append_right (Nat.le_refl _)] at hm
        simp at hm
        exact ⟨by omega, fun _ => .inl ((show cap = es.length from hf))⟩
    · exact (H.fr t).step g2
  · exact ⟨σ, H, .refl w σ st.h⟩

theorem toks_sound {w : World} {a : Act} : ∀ (ps : List (Nat × Nat)) {σ : Sg} {st : St}, Cnc n w σ a st → tokOks st ps → ∃ σ', Cnc n w σ' a (tokSts st ps) ∧ Step w σ st.h w σ' (tokSts st ps).h
  | [], σ, st, H, _ => ⟨σ, H, .refl w σ st.h⟩
  | p :: ps, σ, st, H, hk => by
    obtain ⟨σ', h1, h2⟩ := tok_sound H hk.1
    obtain ⟨σ'', h3, h4⟩ := toks_sound ps h1 hk.2
    exact ⟨σ'', h3, h2.trans h4⟩

theorem vt_sound {w : World} {σ : Sg} {a : Act} {st : St} {p : Nat × Bool × Nat} (H : Cnc n w σ a st) : ∃ σ', Cnc n w σ' a (vtSt st p) ∧ Step w σ st.h w σ' (vtSt st p).h := by
  unfold vtSt
  split
  · rename_i he
    obtain ⟨g1, g2⟩ := inv_add H.inv (Adds.refl w) none (.row []) (fun b e => by cases e) (fun cs e _ => by cases e; exact ⟨.inl ⟨rfl, fun b hb => by rw [List.getElem?_append_right (by rw [H.inv.len]; exact Nat.le_refl _), H.inv.len, Nat.sub_self] at hb; cases hb⟩⟩)
    refine ⟨_, ⟨g1, H.defers, H.size, fun t => ?_⟩, g2⟩
    simp only [put]
    split
    · rename_i e
      subst e
      have hr := (H.fr p.1).step g2
      rw [he] at hr
      generalize a.tmps.getD p.1 undef = v at hr
      cases hr with
      | slice _ _ a cap vs hlen hcap hf htok hc hrr =>
        have hcap0 : cap = 0 := hf
        exact .vec _ _ _ 0 0 0 a cap (Nat.zero_le _) ⟨Nat.le_refl _, Nat.zero_le _⟩ (by simp) (fun k hk => by rw [List.getElem?_append_right (Nat.le_refl _)] at hk; simp at hk) (.inl hcap0)
    · exact (H.fr t).step g2
  · rename_i r ag sz off len cp he
    split
    · rename_i cs ho
      have hrow : st.h[r]? = some (.row cs) := by
        have := ob_row (h := st.h) (r := r) (by rw [ho]; trivial)
        rw [ho] at this
        exact this
      obtain ⟨g1, g2⟩ := inv_moved H.inv hrow
      refine ⟨_, ⟨g1, H.defers, H.size, fun t => ?_⟩, g2⟩
      simp only [put]
      split
      · rename_i e
        subst e
        have hr := (H.fr p.1)
        rw [he] at hr
        generalize a.tmps.getD p.1 undef = v at hr
        cases hr with
        | vec _ _ _ _ _ _ a cap hlen hcap hr hb hv =>
          refine .vec _ _ _ off len cp a cap hlen hcap (by simp) (fun k hk => by rw [List.getElem?_append_right (by simp)] at hk; simp at hk) (hv.imp id ?_)
          rintro ⟨b, c, e, fz, q1, q2, q3, q4⟩
          refine ⟨b, c, e, fz, q1, ?_, q3, q4⟩
          rw [List.getElem?_append_right (by rw [H.inv.len]; exact Nat.le_refl _), H.inv.len, Nat.sub_self, q2]
          rfl
      · exact (H.fr t).step g2
    · exact ⟨σ, H, .refl w σ st.h⟩
  · exact ⟨σ, H, .refl w σ st.h⟩
theorem vts_sound {w : World} {a : Act} : ∀ (ps : List (Nat × Bool × Nat)) {σ : Sg} {st : St}, Cnc n w σ a st → ∃ σ', Cnc n w σ' a (vtSts st ps) ∧ Step w σ st.h w σ' (vtSts st ps).h
  | [], σ, st, H => ⟨σ, H, .refl w σ st.h⟩
  | p :: ps, σ, st, H => by
    obtain ⟨σ', h1, h2⟩ := vt_sound (p := p) H
    obtain ⟨σ'', h3, h4⟩ := vts_sound ps h1
    exact ⟨σ'', h3, h2.trans h4⟩
theorem cpt_sound {n0 : Nat} {w'' : World} {σ'' : Sg} {a'' : Act} {st'' st0 : St} (H'' : Cnc n w'' σ'' a'' st'') (C : Cpt n0 st'' st0) : ∃ σ2, Cnc n w'' σ2 a'' st0 ∧ ∀ (w : World) (σ : Sg) (h : Hp), h.length ≤ n0 → Step w σ h w'' σ'' st''.h → Step w σ h w'' σ2 st0.h := by
  obtain ⟨hb, junk, rows1, rows2, c1, c2, c3, c4, c5, c6, c7⟩ := C.ex
  have hi := H''.inv
  have hf := H''.fr
  rw [c2] at hi hf
  obtain ⟨σ2, g1, g2, g3, g4⟩ := compact_core hi c4 c5 c6
  rw [c2, c3]
  refine ⟨σ2, ⟨c3 ▸ g1, H''.defers, H''.size, fun t => ?_⟩, fun w σ h hle hs => g4 w σ h (by omega) hs⟩
  rw [c3]
  rcases c7 t with ⟨d1, k1, k2⟩ | ⟨k1, k2⟩
  · exact (g2 k1 (hf t)).wk k2
  · exact g3 k2 ((hf t).wk k1)

theorem weak_sound {w w'' : World} {σ σ'' : Sg} {a a'' : Act} {st st'' st0 : St} (H : Cnc n w σ a st) (H'' : Cnc n w'' σ'' a'' st'') (W : Weak st st'' st0) : Cnc n w'' (σ''.take st0.h.length) a'' st0 := by
  have hcl : ∀ (r : Nat) x, r < st0.h.length → st''.h[r]? = some x → ObCl st0.h.length x := by
    intro r x hr hx
    have : st0.h[r]? = some x := by rw [← W.heap, getElem?_take_lt hr]; exact hx
    rcases W.ob r x this with q | q
    · have := H.inv.cl q
      cases x with
      | row cs => exact fun d hd => (this d hd).mono W.le
      | dead => trivial
      | buf m => trivial
    · exact q
  have hinv := H''.inv.take W.le' hcl
  rw [W.heap] at hinv
  refine ⟨hinv, H''.defers, H''.size, fun t => ?_⟩
  rcases W.fr t with ⟨e1, e2⟩ | ⟨k1, k2⟩
  · have hc : Cl st0.h.length (st''.fr t) := by rw [e2]; exact ((H.fr t).cl).mono W.le
    have := (H''.fr t).take hc W.le'
    rw [W.heap] at this
    rw [e1, ← e2]
    exact this
  · have h1 := (H''.fr t).wk k1
    have := h1.take k2 W.le'
    rw [W.heap] at this
    exact this

/-- What stands behind a piece of code. -/
def Post (n : Nat) (w : World) (σ : Sg) (h : Hp) (Q : Exit → St → Prop) : Exit → Act → World → Prop :=
  fun e a' w' => ∃ st' σ', Q e st' ∧ Cnc n w' σ' a' st' ∧ Step w σ h w' σ' st'.h

theorem Post.trans {w w1 : World} {σ σ1 : Sg} {h h1 : Hp} {Q : Exit → St → Prop} (hs : Step w σ h w1 σ1 h1) {e : Exit} {a' : Act} {w' : World} (H : Post n w1 σ1 h1 Q e a' w') : Post n w σ h Q e a' w' :=
  let ⟨st', σ', q1, q2, q3⟩ := H
  ⟨st', σ', q1, q2, hs.trans q3⟩

theorem ev_sound (hm : P.follows .mixedOrders = true) {mu : List Nat} : ∀ (c : Code) (Q : Exit → St → Prop) (st : St), fits n c = true → ev P mu c Q st → ∀ w σ a, Cnc n w σ a st → c.wp P (Post n w σ st.h Q) a w := by
  intro c
  induction c with
  | skip => exact fun Q st _ he w σ a H => wp_skip ⟨st, σ, he, H, .refl w σ st.h⟩
  | label l => exact fun Q st _ he w σ a H => wp_label ⟨st, σ, he, H, .refl w σ st.h⟩
  | exit id => exact fun Q st _ he w σ a H => wp_exit ⟨st, σ, he, H, .refl w σ st.h⟩
  | ret => exact fun Q st _ he w σ a H => wp_ret ⟨st, σ, he, H, .refl w σ st.h⟩
  | region id ops draw =>
    intro Q st hf he w σ a H
    simp only [fits, Bool.and_eq_true] at hf
    cases draw with
    | true =>
      simp only [ev, if_true] at he
      have hf2 : Region.lexB .any ops = true := by simpa using hf.2
      split at he
      · have := mix_sound (id := id) hm hf.1 (by simpa using hf2) H he (Q := Post n w σ st.h Q) (fun st' σ' a' w' k1 k2 k3 => ⟨st', σ', k1, k2, k3⟩)
        simpa using this
      · have := draw_sound (id := id) hm hf.1 (by simpa using hf2) H he (Q := Post n w σ st.h Q) (fun st' σ' a' w' k1 k2 k3 => ⟨st', σ', k1, k2, k3⟩)
        simpa using this
    | false =>
      simp only [ev, Bool.false_eq_true, if_false] at he
      refine wp_region_list ?_
      have := ops_sound (Q := Post n w σ st.h Q) ops.toList st _ hf.1 he w σ a H (fun st' σ' a' w' k1 k2 k3 => ⟨st', σ', k1, k2, k3⟩)
      simpa using this
  | seq x y ihx ihy =>
    intro Q st hf he w σ a H
    simp only [fits, Bool.and_eq_true] at hf
    refine wp_seq (wp_mono (ihx _ st hf.1 he w σ a H) ?_)
    rintro e a' w' ⟨st', σ', q1, q2, q3⟩
    cases e with
    | normal => exact wp_mono (ihy Q st' hf.2 q1 w' σ' a' q2) (fun e a'' w'' hp => hp.trans q3)
    | _ => exact ⟨st', σ', q1, q2, q3⟩
  | cond c x y ihx ihy =>
    intro Q st hf he w σ a H
    simp only [fits, Bool.and_eq_true] at hf
    obtain ⟨h1, h2, h3, h4⟩ := he
    have hr := rep_vl (a := a) (fr := st.fr) (x := c) (fun t _ => H.fr t) h1
    rw [isBool_of h2] at hr
    generalize hev : a.eval c = v at hr
    cases hr with
    | bool b => exact wp_cond_split hev (fun hb => ihx Q st hf.1 (h3 hb) w σ a H) (fun hb => ihy Q st hf.2 (h4 hb) w σ a H)
  | block id c ih =>
    intro Q st hf he w σ a H
    refine wp_block (wp_mono (ih _ st hf he w σ a H) ?_)
    rintro e a' w' ⟨st', σ', q1, q2, q3⟩
    cases e with
    | exit id' =>
      simp only [blockE] at q1
      simp only [Exit.inBlock]
      split
      · rename_i e; rw [if_pos e] at q1; exact ⟨st', σ', q1, q2, q3⟩
      · rename_i e; rw [if_neg e] at q1; exact ⟨st', σ', q1, q2, q3⟩
    | _ => exact ⟨st', σ', q1, q2, q3⟩
  | loop c ih =>
    intro Q st hf he w σ a H
    obtain ⟨vts, toks, I, ht, ⟨m, st0, hI, hW⟩, hround⟩ := he
    obtain ⟨σv, Hv, Sv⟩ := vts_sound vts H
    obtain ⟨σ1, H1, S1'⟩ := toks_sound toks Hv ht
    have S1 := Sv.trans S1'
    have H0 := weak_sound H1 H1 hW
    have S0 : Step w σ st.h w (σ1.take st0.h.length) st0.h := by
      have := S1.take (n := st0.h.length) (Nat.le_trans S1.mono.len hW.le) hW.le'
      rw [hW.heap] at this
      exact this
    let J : Nat → Act → World → Prop := fun m a' w' => ∃ st' σ', I m st' ∧ Cnc n w' σ' a' st' ∧ Step w σ st.h w' σ' st'.h
    have hJ : ∃ m, J m a w := ⟨m, st0, _, hI, H0, S0⟩
    let μ : Act → World → Nat := fun a' w' => Classical.epsilon fun m => J m a' w' ∧ ∀ k, J k a' w' → m ≤ k
    have hμ : ∀ a' w', (∃ m, J m a' w') → J (μ a' w') a' w' ∧ ∀ k, J k a' w' → μ a' w' ≤ k := by
      intro a' w' hex
      have : ∃ m, J m a' w' ∧ ∀ k, J k a' w' → m ≤ k := by
        obtain ⟨m, hm⟩ := hex
        induction m using Nat.strongRecOn with
        | _ m ih =>
          by_cases hle : ∀ k, J k a' w' → m ≤ k
          · exact ⟨m, hm, hle⟩
          · have ⟨k, hk⟩ := Classical.not_forall.1 hle
            have ⟨hk1, hk2⟩ := Classical.not_imp.1 hk
            exact ih k (by omega) hk1
      exact Classical.epsilon_spec this
    refine wp_loop (fun a' w' => ∃ m, J m a' w') μ hJ fun a' w' hex => ?_
    obtain ⟨⟨st', σ', g1, g2, g3⟩, _⟩ := hμ a' w' hex
    refine wp_mono (ih _ st' hf (hround _ st' g1) w' σ' a' g2) ?_
    rintro e a'' w'' ⟨st'', σ'', q1, q2, q3⟩
    cases e with
    | normal =>
      obtain ⟨m', st1, k1, k2, k3⟩ := q1
      have hst := g3.trans q3
      have hj : J m' a'' w'' := by
        rcases k3 with k3 | k3
        · have hc := weak_sound g2 q2 k3
          have hs1 : Step w σ st.h w'' (σ''.take st1.h.length) st1.h := by
            have := hst.take (n := st1.h.length) (Nat.le_trans g3.mono.len k3.le) k3.le'
            rw [k3.heap] at this
            exact this
          exact ⟨st1, _, k2, hc, hs1⟩
        · obtain ⟨σ2, hc, hs⟩ := cpt_sound q2 k3
          exact ⟨st1, σ2, k2, hc, hs w σ st.h (Nat.le_refl _) hst⟩
      exact ⟨⟨m', hj⟩, Nat.lt_of_le_of_lt ((hμ a'' w'' ⟨m', hj⟩).2 m' hj) k1⟩
    | _ => exact ⟨st'', σ'', q1, q2, g3.trans q3⟩
  | rangeFunc f ps as b => exact fun Q st _ he => absurd he id
  | scope b => exact fun Q st _ he => absurd he id
  | goto l => exact fun Q st _ he => absurd he id
  | refuse s => exact fun Q st _ he => absurd he id
end
end Go.Av

/- A function's contract out of its body. -/
namespace Go.Av
set_option linter.unusedSectionVars false
variable [Start]

def frOf (args : List D) : Fr := fun t => args.getD t .junk

def resV (P : Program) (st : St) : ResultVar → D
  | .tmp t => st.fr t
  | .cell a t => loadD P t st.h (un (st.fr a))
def resOk (P : Program) (st : St) : ResultVar → Prop
  | .tmp _ => True
  | .cell a t => vc (st.fr a) = true ∧ loadOk P t st.h (un (st.fr a))
def resD (P : Program) (rs : List ResultVar) (st : St) : D :=
  match rs with
  | [r] => resV P st r
  | rs => .tup (rs.map (resV P st))

/-- The objects behind a call (h') as the call leaves them: those ahead of it, or turned, or new ones. -/
structure Back (h h'' h' : Hp) : Prop where
  le : h.length ≤ h'.length
  le' : h'.length ≤ h''.length
  take : h''.take h'.length = h'
  ob : ∀ (r : Nat) x, h'[r]? = some x → h[r]? = some x ∨ ObCl h'.length x

def finS (P : Program) (rs : List ResultVar) (h : Hp) (Q : D → Hp → Prop) (st : St) : Prop :=
  (∀ r, r ∈ rs → resOk P st r) ∧ ∃ d0 d h', Frz h'.length st.h (resD P rs st) d0 ∧ Wk d0 d ∧ Cl h'.length d ∧ Back h st.h h' ∧ Q d h'

def fin (P : Program) (rs : List ResultVar) (h : Hp) (Q : D → Hp → Prop) : Exit → St → Prop
  | .normal, st => finS P rs h Q st
  | .ret, st => finS P rs h Q st
  | _, _ => False

def flen : D → Prop
  | .str s => s.length ≤ lenMax
  | .slice es _ => es.length ≤ lenMax
  | _ => True
def fitsD : D → Prop
  | .agg cs => ∀ c, c ∈ cs → flen c
  | d => flen d

section
variable {P : Program}

omit [Start] in
theorem rep_flen {w : World} {ow : Nat → Nat → Prop} {σ : Sg} {h : Hp} {d : D} {v : Value} (H : Rep w ow σ h d v) : flen d := by
  cases H with
  | str s hl => exact hl
  | slice es t a cap vs hlen hcap hfull htok hc hr => exact hlen
  | _ => trivial
omit [Start] in
theorem rep_fitsD {w : World} {ow : Nat → Nat → Prop} {σ : Sg} {h : Hp} {d : D} {v : Value} (H : Rep w ow σ h d v) : fitsD d := by
  cases H with
  | agg cs vs hl hr =>
    intro c hc
    obtain ⟨k, hk, rfl⟩ := List.mem_iff_getElem.1 hc
    exact rep_flen (hr k hk (by omega))
  | str s hl => exact hl
  | slice es t a cap vs hlen hcap hfull htok hc hr => exact hlen
  | _ => trivial

def resF (tmps : Array Value) : ResultVar → Sem Value
  | .tmp t => pure (tmps.getD t undef)
  | .cell a t => do loadVar t (← asAddr (tmps.getD a undef))
omit [Start] in
theorem results_eq (fn : Func) (tmps : Array Value) : results fn tmps = (do let vs ← fn.results.mapM (resF tmps); pure (if h : vs.size = 1 then vs[0] else .tuple vs)) := rfl

theorem res_sound {w : World} {σ : Sg} {st : St} {a : Act} {n : Nat} {fn : Func} (H : Cnc n w σ a st) (hok : ∀ r, r ∈ fn.results.toList → resOk P st r) :
    ∃ v, (results fn a.tmps).run P w = .ok v w ∧ Rep w (own σ st.h) σ st.h (resD P fn.results.toList st) v := by
  have hall : ∀ (rs : List ResultVar), (∀ r, r ∈ rs → resOk P st r) → ∃ vs, (rs.mapM (resF a.tmps)).run P w = .ok vs w ∧ RepL w (own σ st.h) σ st.h (rs.map (resV P st)) vs := by
    intro rs
    induction rs with
    | nil => exact fun _ => ⟨[], by simp, RepL.nil⟩
    | cons r rs ih =>
      intro hok
      obtain ⟨vs, g1, g2⟩ := ih (fun x hx => hok x (by simp [hx]))
      have hr : ∃ v, (resF a.tmps r).run P w = .ok v w ∧ Rep w (own σ st.h) σ st.h (resV P st r) v := by
        have hk := hok r (by simp)
        cases r with
        | tmp t => exact ⟨_, rfl, H.fr t⟩
        | cell x t =>
          obtain ⟨v, e1, e2⟩ := load_sound H.inv ((H.fr x).un hk.1) hk.2
          refine ⟨v, ?_, e2⟩
          have hp : ∃ b, a.tmps.getD x undef = .pointer (some b) := by
            have h1 := (H.fr x).un hk.1
            have h2 := hk.2.2.2
            revert h1 h2
            generalize un (st.fr x) = d
            generalize a.tmps.getD x undef = u
            intro h1 h2
            cases h1 with
            | ptr r off b _ _ _ => exact ⟨_, rfl⟩
            | vptr cs b o vs _ _ => exact ⟨_, rfl⟩
            | _ => exact absurd h2 (by simp)
          obtain ⟨b, hb⟩ := hp
          rw [hb] at e1
          simp only [resF, hb, asAddr, Sem.run_bind, Sem.run_pure, Result.andThen_ok]
          simpa [Instr.loadAt, Instr.sureAddr] using e1
      obtain ⟨v, e1, e2⟩ := hr
      refine ⟨v :: vs, ?_, .cons e2 g2⟩
      simp only [List.mapM_cons, Sem.run_bind, e1, g1, Result.andThen_ok, Sem.run_pure]
  obtain ⟨vs, g1, g2⟩ := hall fn.results.toList hok
  have hl := g2.1
  simp only [List.length_map] at hl
  have hrun : (results fn a.tmps).run P w = .ok (if h : vs.toArray.size = 1 then vs.toArray[0] else .tuple vs.toArray) w := by
    rw [results_eq]
    simp only [Array.mapM_eq_mapM_toList, Sem.run_bind, Sem.run_map, g1, Result.andThen_ok, Sem.run_pure]
  refine ⟨_, hrun, ?_⟩
  unfold resD
  split
  · rename_i r hr
    rw [hr] at g2 hl
    simp only [List.map_cons, List.map_nil, List.length_cons, List.length_nil] at g2 hl
    match vs, hl, g2 with
    | [v], _, g2 => simpa using g2.2 0 (by simp) (by simp)
  · rename_i hne
    have hn1 : vs.length ≠ 1 := by
      intro e
      rw [e] at hl
      have : ∃ r, fn.results.toList = [r] := by
        generalize fn.results.toList = l at hl
        match l, hl with
        | [r], _ => exact ⟨r, rfl⟩
      obtain ⟨r, hr⟩ := this
      exact hne r hr
    rw [dif_neg (by simpa using hn1)]
    exact .tup _ _ g2.1 g2.2

theorem meets_ofC {f : FuncId} {fn : Func} {c : Code} {args : List D} {h : Hp} {Q : D → Hp → Prop} (mu : List Nat) (hm : P.follows .mixedOrders = true) (hf : P.funcs[f]? = some fn) (hb : fn.body = some c) (hname : (fn.name == "runtime.NumGoroutine") = false)
    (hfit : fits fn.ntmps c = true) (hn : args.length ≤ fn.ntmps) (H : (∀ d, d ∈ args → fitsD d) → (∀ (r : Nat) x, h[r]? = some x → ObCl h.length x) → ev P mu c (fin P fn.results.toList h Q) ⟨frOf args, h ++ []⟩) : Meets P f args h Q := by
  rw [List.append_nil] at H
  refine ⟨fun as w => ?_, fun w σ vs hi hr => ?_⟩
  · have hn' : fn.name ≠ "runtime.NumGoroutine" := by simpa using hname
    simp [callFunc, hf, hn', hb]
  · have hvl : vs.length = args.length := hr.1
    have hcnc : Cnc fn.ntmps w σ { tmps := vs.toArray ++ Array.replicate (fn.ntmps - vs.toArray.size) undef, defers := [] } ⟨frOf args, h⟩ := by
      refine ⟨hi, rfl, by simp; omega, fun t => ?_⟩
      simp only [frOf, List.getD_eq_getElem?_getD]
      by_cases ht : t < args.length
      · rw [List.getElem?_eq_getElem ht]
        have : (vs.toArray ++ Array.replicate (fn.ntmps - vs.toArray.size) undef).getD t undef = vs[t]'(by omega) := by
          rw [Array.getD_eq_getD_getElem?, Array.getElem?_append_left (by simp; omega)]
          simp [show t < vs.length by omega]
        rw [this]
        exact hr.2 t ht (by omega)
      · rw [List.getElem?_eq_none (by omega)]
        exact .junk _
    have hfl : ∀ d, d ∈ args → fitsD d := fun d hd => by
      obtain ⟨k, hk, rfl⟩ := List.mem_iff_getElem.1 hd
      exact rep_fitsD (hr.2 k hk (by omega))
    have hwp := ev_sound hm c _ _ hfit (H hfl (fun r x hx => hi.cl hx)) w σ _ hcnc
    refine calls_of_wp hf hb (wp_mono hwp ?_)
    have key : ∀ (a' : Act) (w' : World) st' σ', finS P fn.results.toList h Q st' → Cnc fn.ntmps w' σ' a' st' → Step w σ h w' σ' st'.h →
        a'.defers = [] ∧ ∃ v, (results fn a'.tmps).run P w' = .ok v w' ∧ ∃ v', Ending.returned v = .returned v' ∧ ∃ d h' σ', Q d h' ∧ Inv w' σ' h' ∧ Rep w' (own σ' h') σ' h' d v' ∧ Step w σ h w' σ' h' := by
      rintro a' w' st' σ' ⟨k1, d0, d, h', k0, k2, k3, ⟨b1, b2, b3, b4⟩, k5⟩ q2 q3
      obtain ⟨v, e1, e2⟩ := res_sound q2 k1
      refine ⟨q2.defers, v, e1, v, rfl, d, h', σ'.take h'.length, k5, ?_, ?_, ?_⟩
      · have := q2.inv.take b2 (fun r x hr hx => by
          have hx' : h'[r]? = some x := by rw [← b3, getElem?_take_lt hr]; exact hx
          rcases b4 r x hx' with q | q
          · have := hi.cl q
            cases x with
            | row cs => exact fun d hd => (this d hd).mono b1
            | dead => trivial
            | buf m => trivial
          · exact q)
        rw [b3] at this
        exact this
      · have hr0 := (k0.rep q2.inv (ow' := own (σ'.take h'.length) (st'.h.take h'.length)) (fun b o => own_take) (fun r b cs hr hrow hb o ho => by
          obtain ⟨k, g1, g2⟩ := ho
          rw [List.getElem?_take] at g1 g2
          split at g1
          · rename_i hk
            rw [if_pos hk] at g2
            have hd : st'.h[k]? ≠ some .dead := by rcases g2 with ⟨_, e⟩ | ⟨_, e, _⟩ <;> rw [e] <;> simp
            have := q2.inv.inj k r b g1 hb hd (by rw [hrow]; simp)
            omega
          · cases g1) e2).wk k2
        have := hr0.move (σ' := σ'.take h'.length) (h' := st'.h.take h'.length) (fun _ _ q => q) k3 (by simp; omega) (fun r hr => ⟨getElem?_take_lt hr, fun hb k => by rw [getElem?_take_lt hr]; exact hb k, fun k => by rw [getElem?_take_lt hr]; exact id⟩)
        rw [b3] at this
        exact this
      · have := q3.take b1 b2
        rw [b3] at this
        exact this
    rintro e a' w' ⟨st', σ', q1, q2, q3⟩
    cases e with
    | normal => exact key a' w' st' σ' q1 q2 q3
    | ret => exact key a' w' st' σ' q1 q2 q3
    | _ => exact absurd q1 id
theorem meets_of {f : FuncId} {fn : Func} {c : Code} {args : List D} {h : Hp} {Q : D → Hp → Prop} (mu : List Nat) (hm : P.follows .mixedOrders = true) (hf : P.funcs[f]? = some fn) (hb : fn.body = some c) (hname : (fn.name == "runtime.NumGoroutine") = false)
    (hfit : fits fn.ntmps c = true) (hn : args.length ≤ fn.ntmps) (H : (∀ d, d ∈ args → fitsD d) → ev P mu c (fin P fn.results.toList h Q) ⟨frOf args, h ++ []⟩) : Meets P f args h Q :=
  meets_ofC mu hm hf hb hname hfit hn (fun h1 _ => H h1)
end
end Go.Av

/- Laws for evaluating: what a goal of 'ev' is simplified by; loops. -/
namespace Go.Av
set_option linter.unusedSectionVars false
variable [Start]

section
variable (a b : Bool) (k k' : IntKind) (x y : Int) (s t : List UInt8) (es es' : List D) (t1 t2 : Tok)
omit [Start] in
theorem wk_refl (d : D) : Wk d d ↔ True := ⟨fun _ => trivial, fun _ => .refl d⟩
omit [Start] in
theorem wk_junk (d : D) : Wk d .junk ↔ True := ⟨fun _ => trivial, fun _ => .junk d⟩
omit [Start] in
theorem wk_bool : Wk (.bool a) (.bool b) ↔ a = b := ⟨fun h => by cases h; rfl, fun h => h ▸ .refl _⟩
omit [Start] in
theorem wk_int : Wk (.int k x) (.int k' y) ↔ k = k' ∧ x = y := ⟨fun h => by cases h; exact ⟨rfl, rfl⟩, fun ⟨h1, h2⟩ => by subst h1 h2; exact .refl _⟩
omit [Start] in
theorem wk_str : Wk (.str s) (.str t) ↔ s = t := ⟨fun h => by cases h; rfl, fun h => h ▸ .refl _⟩
omit [Start] in
theorem wk_slice_no : Wk (.slice es t1) (.slice es' .no) ↔ es = es' := ⟨fun h => by cases h <;> rfl, fun h => h ▸ .tok _ _⟩
omit [Start] in
theorem wk_slice : Wk (.slice es t1) (.slice es' t1) ↔ es = es' := ⟨fun h => by cases h <;> rfl, fun h => h ▸ .refl _⟩
omit [Start] in
theorem wk_agg (cs cs' : List D) : Wk (.agg cs) (.agg cs') ↔ WkL cs cs' := by
  constructor
  · intro h
    cases h with
    | refl d =>
      induction cs with
      | nil => trivial
      | cons c cs ih => exact ⟨.refl c, ih⟩
    | agg _ _ hl hh =>
      induction cs generalizing cs' with
      | nil => cases cs' with | nil => trivial | cons c cs' => simp at hl
      | cons c cs ih =>
        cases cs' with
        | nil => simp at hl
        | cons c' cs' => exact ⟨hh 0 (by simp) (by simp), ih cs' (by simpa using hl) (fun k h1 h2 => hh (k + 1) (by simpa using h1) (by simpa using h2))⟩
  · intro h
    have key : ∀ cs cs', WkL cs cs' → cs'.length = cs.length ∧ ∀ k (h1 : k < cs.length) (h2 : k < cs'.length), Wk (cs[k]) (cs'[k]) := by
      intro cs
      induction cs with
      | nil => intro cs' h; cases cs' with | nil => exact ⟨rfl, fun k h1 => absurd h1 (by simp)⟩ | cons c cs' => exact absurd h id
      | cons c cs ih =>
        intro cs' h
        cases cs' with
        | nil => exact absurd h id
        | cons c' cs' =>
          obtain ⟨h1, h2⟩ := ih cs' h.2
          refine ⟨by simp [h1], fun k k1 k2 => ?_⟩
          cases k with
          | zero => exact h.1
          | succ k => exact h2 k (by simpa using k1) (by simpa using k2)
    obtain ⟨h1, h2⟩ := key cs cs' h
    exact .agg cs cs' h1 h2
omit [Start] in
theorem wk_tup (cs cs' : List D) : Wk (.tup cs) (.tup cs') ↔ WkL cs cs' := by
  constructor
  · intro h
    cases h with
    | refl d =>
      induction cs with
      | nil => trivial
      | cons c cs ih => exact ⟨.refl c, ih⟩
    | tup _ _ hl hh =>
      induction cs generalizing cs' with
      | nil => cases cs' with | nil => trivial | cons c cs' => simp at hl
      | cons c cs ih =>
        cases cs' with
        | nil => simp at hl
        | cons c' cs' => exact ⟨hh 0 (by simp) (by simp), ih cs' (by simpa using hl) (fun k h1 h2 => hh (k + 1) (by simpa using h1) (by simpa using h2))⟩
  · intro h
    have h' := (wk_agg cs cs').2 h
    cases h' with
    | refl d => exact .refl _
    | agg _ _ hl hh => exact .tup cs cs' hl hh
end

/-- d, behind the call, may be seen as d' -/
def FW (n : Nat) (h : Hp) (d d' : D) : Prop := ∃ d0, Frz n h d d0 ∧ Wk d0 d'
def FWL (n : Nat) (h : Hp) : List D → List D → Prop
  | [], [] => True
  | a :: as, b :: bs => FW n h a b ∧ FWL n h as bs
  | _, _ => False

omit [Start] in
theorem fw_wk {n : Nat} {h : Hp} {d d' : D} (hd : match d with | .vec _ _ _ _ _ _ | .agg _ | .tup _ => False | _ => True) : FW n h d d' ↔ Wk d d' := by
  constructor
  · rintro ⟨d0, h1, h2⟩
    cases h1 with
    | refl d => exact h2
    | vec => exact absurd hd (by simp)
    | agg => exact absurd hd (by simp)
    | tup => exact absurd hd (by simp)
  · exact fun hw => ⟨d, .refl d, hw⟩
omit [Start] in
theorem fw_int (n : Nat) (h : Hp) (k : IntKind) (x : Int) (d' : D) : FW n h (.int k x) d' ↔ Wk (.int k x) d' := fw_wk trivial
omit [Start] in
theorem fw_bool (n : Nat) (h : Hp) (b : Bool) (d' : D) : FW n h (.bool b) d' ↔ Wk (.bool b) d' := fw_wk trivial
omit [Start] in
theorem fw_str (n : Nat) (h : Hp) (s : List UInt8) (d' : D) : FW n h (.str s) d' ↔ Wk (.str s) d' := fw_wk trivial
omit [Start] in
theorem fw_slice (n : Nat) (h : Hp) (es : List D) (t : Tok) (d' : D) : FW n h (.slice es t) d' ↔ Wk (.slice es t) d' := fw_wk trivial
omit [Start] in
theorem fw_ptr (n : Nat) (h : Hp) (r o : Nat) (d' : D) : FW n h (.ptr r o) d' ↔ Wk (.ptr r o) d' := fw_wk trivial
omit [Start] in
theorem fw_nilptr (n : Nat) (h : Hp) (d' : D) : FW n h .nilptr d' ↔ Wk .nilptr d' := fw_wk trivial
omit [Start] in
theorem fw_nilif (n : Nat) (h : Hp) (d' : D) : FW n h .nilif d' ↔ Wk .nilif d' := fw_wk trivial

omit [Start] in
theorem fwl_split {n : Nat} {h : Hp} : ∀ {cs cs' : List D}, FWL n h cs cs' ↔ ∃ ds : List D, (ds.length = cs.length ∧ ∀ k (h1 : k < cs.length) (h2 : k < ds.length), Frz n h (cs[k]) (ds[k])) ∧ WkL ds cs'
  | [], [] => ⟨fun _ => ⟨[], ⟨rfl, fun k h1 => absurd h1 (by simp)⟩, trivial⟩, fun _ => trivial⟩
  | [], b :: bs => ⟨fun h => absurd h id, fun ⟨ds, ⟨h1, _⟩, h2⟩ => by
      cases ds with
      | nil => exact h2
      | cons d ds => simp at h1⟩
  | a :: as, [] => ⟨fun h => absurd h id, fun ⟨ds, ⟨h1, _⟩, h2⟩ => by
      cases ds with
      | nil => simp at h1
      | cons d ds => exact h2⟩
  | a :: as, b :: bs => by
    constructor
    · rintro ⟨⟨d0, f1, f2⟩, h2⟩
      obtain ⟨ds, ⟨g1, g2⟩, g3⟩ := fwl_split.1 h2
      exact ⟨d0 :: ds, ⟨by simp [g1], fun k k1 k2 => by
        cases k with
        | zero => exact f1
        | succ k => exact g2 k (by simpa using k1) (by simpa using k2)⟩, f2, g3⟩
    · rintro ⟨ds, ⟨g1, g2⟩, g3⟩
      cases ds with
      | nil => simp at g1
      | cons d ds =>
        exact ⟨⟨d, g2 0 (by simp) (by simp), g3.1⟩, fwl_split.2 ⟨ds, ⟨by simpa using g1, fun k k1 k2 => g2 (k + 1) (by simpa using k1) (by simpa using k2)⟩, g3.2⟩⟩

omit [Start] in
theorem fw_agg (n : Nat) (h : Hp) (cs cs' : List D) : FW n h (.agg cs) (.agg cs') ↔ FWL n h cs cs' := by
  rw [fwl_split]
  constructor
  · rintro ⟨d0, h1, h2⟩
    cases h1 with
    | refl d => exact ⟨cs, ⟨rfl, fun k h1 h2 => .refl _⟩, (wk_agg _ _).1 h2⟩
    | agg _ ds hl hh => exact ⟨ds, ⟨hl, hh⟩, (wk_agg _ _).1 h2⟩
  · rintro ⟨ds, ⟨h1, h2⟩, h3⟩
    exact ⟨.agg ds, .agg cs ds h1 h2, (wk_agg _ _).2 h3⟩
omit [Start] in
theorem fw_tup (n : Nat) (h : Hp) (cs cs' : List D) : FW n h (.tup cs) (.tup cs') ↔ FWL n h cs cs' := by
  rw [fwl_split]
  constructor
  · rintro ⟨d0, h1, h2⟩
    cases h1 with
    | refl d => exact ⟨cs, ⟨rfl, fun k h1 h2 => .refl _⟩, (wk_tup _ _).1 h2⟩
    | tup _ ds hl hh => exact ⟨ds, ⟨hl, hh⟩, (wk_tup _ _).1 h2⟩
  · rintro ⟨ds, ⟨h1, h2⟩, h3⟩
    exact ⟨.tup ds, .tup cs ds h1 h2, (wk_tup _ _).2 h3⟩
omit [Start] in
theorem fw_vec (n : Nat) (h : Hp) (r : Nat) (ag : Bool) (sz off len cp : Nat) (es : List D) : FW n h (.vec r ag sz off len cp) (.slice es .no) ↔
    (n ≤ r ∧ isRow (ob h r) ∧ (off + len) * sz ≤ (rowOf (ob h r)).length ∧ (∀ d, d ∈ rowPart h r sz off len → Cl 0 d) ∧ 0 < sz ∧ (ag = false → sz = 1 ∧ ∀ d, d ∈ rowPart h r sz off len → d.cells = [d])) ∧ chunk ag sz len (rowPart h r sz off len) = es := by
  constructor
  · rintro ⟨d0, h1, h2⟩
    cases h1 with
    | refl d => cases h2
    | vec _ _ _ _ _ _ k1 k2 k3 k4 k5 k6 => exact ⟨⟨k1, k2, k3, k4, k5, k6⟩, (wk_slice_no _ _ _).1 h2⟩
  · rintro ⟨⟨k1, k2, k3, k4, k5, k6⟩, rfl⟩
    exact ⟨_, .vec r ag sz off len cp k1 k2 k3 k4 k5 k6, .refl _⟩

omit [Start] in
theorem wk_vec (r r' : Nat) (ag ag' : Bool) (sz sz' off off' len len' cp cp' : Nat) : Wk (.vec r ag sz off len cp) (.vec r' ag' sz' off' len' cp') ↔ (r' = r ∧ ag' = ag ∧ sz' = sz ∧ off' = off ∧ len' = len) ∧ (cp' = cp ∨ (len ≤ cp' ∧ cp' ≤ cp)) := by
  constructor
  · intro h
    cases h with
    | refl => exact ⟨⟨rfl, rfl, rfl, rfl, rfl⟩, .inl rfl⟩
    | vec _ _ _ _ _ _ _ h1 h2 => exact ⟨⟨rfl, rfl, rfl, rfl, rfl⟩, .inr ⟨h1, h2⟩⟩
  · rintro ⟨⟨rfl, rfl, rfl, rfl, rfl⟩, rfl | ⟨h1, h2⟩⟩
    · exact .refl _
    · exact .vec _ _ _ _ _ _ _ h1 h2
omit [Start] in
theorem fw_vecvec (n : Nat) (h : Hp) (r r' : Nat) (ag ag' : Bool) (sz sz' off off' len len' cp cp' : Nat) : FW n h (.vec r ag sz off len cp) (.vec r' ag' sz' off' len' cp') ↔ Wk (.vec r ag sz off len cp) (.vec r' ag' sz' off' len' cp') := by
  constructor
  · rintro ⟨d0, h1, h2⟩
    cases h1 with
    | refl d => exact h2
    | vec => cases h2
  · exact fun hw => ⟨_, .refl _, hw⟩
omit [Start] in
theorem finS_meets {P : Program} {rs : List ResultVar} {h hh : Hp} {d : D} {st : St} : finS P rs h (fun d' h' => d' = d ∧ h' = hh) st ↔ (∀ r, r ∈ rs → resOk P st r) ∧ FW hh.length st.h (resD P rs st) d ∧ Cl hh.length d ∧ Back h st.h hh := by
  constructor
  · rintro ⟨h1, d0, d', h', h0, h2, h3, h4, rfl, rfl⟩; exact ⟨h1, ⟨d0, h0, h2⟩, h3, h4⟩
  · rintro ⟨h1, ⟨d0, h0, h2⟩, h3, h4⟩; exact ⟨h1, d0, d, hh, h0, h2, h3, h4, rfl, rfl⟩
omit [Start] in
theorem back_rows (h ls rows : Hp) : Back h (h ++ ls) (h ++ rows) ↔ (rows.length ≤ ls.length ∧ ls.take rows.length = rows) ∧ ∀ x, x ∈ rows → ObCl (h.length + rows.length) x := by
  constructor
  · rintro ⟨h1, h2, h3, h4⟩
    simp only [List.length_append] at h2
    refine ⟨⟨by omega, ?_⟩, fun x hx => ?_⟩
    · have := h3
      rw [List.length_append, List.take_append, List.take_of_length_le (by omega), show h.length + rows.length - h.length = rows.length by omega] at this
      exact List.append_cancel_left this
    · obtain ⟨k, hk, rfl⟩ := List.mem_iff_getElem.1 hx
      have := h4 (h.length + k) rows[k] (by rw [List.getElem?_append_right (by omega)]; simp)
      rcases this with q | q
      · rw [List.getElem?_eq_none (by omega)] at q; cases q
      · simpa using q
  · rintro ⟨⟨h1, h2⟩, h3⟩
    refine ⟨by simp, by simp; omega, ?_, fun r x hx => ?_⟩
    · rw [List.length_append, List.take_append, List.take_of_length_le (by omega), show h.length + rows.length - h.length = rows.length by omega, h2]
    · by_cases hr : r < h.length
      · rw [List.getElem?_append_left hr] at hx; exact .inl hx
      · rw [List.getElem?_append_right (by omega)] at hx
        refine .inr ?_
        rw [List.length_append]
        exact h3 x (List.mem_of_getElem? hx)
omit [Start] in
theorem finS_gives {P : Program} {rs : List ResultVar} {h : Hp} {d : D} {st : St} : finS P rs h (fun d' h' => d' = d ∧ h' = h) st ↔ (∀ r, r ∈ rs → resOk P st r) ∧ FW h.length st.h (resD P rs st) d ∧ Cl h.length d ∧ Back h st.h h := by
  constructor
  · rintro ⟨h1, d0, d', h', h0, h2, h3, h4, rfl, rfl⟩; exact ⟨h1, ⟨d0, h0, h2⟩, h3, h4⟩
  · rintro ⟨h1, ⟨d0, h0, h2⟩, h3, h4⟩; exact ⟨h1, d0, d, h, h0, h2, h3, h4, rfl, rfl⟩

omit [Start] in
theorem back_app (h ls : Hp) : Back h (h ++ ls) h ↔ True := ⟨fun _ => trivial, fun _ => ⟨Nat.le_refl _, by simp, by simp, fun r x hx => .inl hx⟩⟩
omit [Start] in
theorem back_refl (h : Hp) : Back h h h ↔ True := ⟨fun _ => trivial, fun _ => ⟨Nat.le_refl _, Nat.le_refl _, by simp, fun r x hx => .inl hx⟩⟩
omit [Start] in
theorem back_set {h : Hp} {r : Nat} {cs cs' : List D} (e : cs = cs') (hr : r < h.length) (hc : ∀ d, d ∈ cs' → Cl h.length d) : Back h (h.set r (.row cs)) (h.set r (.row cs')) := by
  subst e
  refine ⟨by simp, Nat.le_refl _, List.take_length, fun k x hx => ?_⟩
  rw [List.getElem?_set] at hx
  split at hx
  · cases hx
    refine .inr ?_
    rw [List.length_set]
    exact hc
  · exact .inl hx

omit [Start] in
theorem ob_app0 (h ls : Hp) : ob (h ++ ls) h.length = ob ls 0 := by simp [ob, List.getD_eq_getElem?_getD, List.getElem?_append_right]
omit [Start] in
theorem ob_app (h ls : Hp) (k : Nat) : ob (h ++ ls) (h.length + k) = ob ls k := by simp [ob, List.getD_eq_getElem?_getD, List.getElem?_append_right]
omit [Start] in
theorem ob_zero (x : Ob) (ls : Hp) : ob (x :: ls) 0 = x := rfl
omit [Start] in
theorem ob_succ (x : Ob) (ls : Hp) (k : Nat) : ob (x :: ls) (k + 1) = ob ls k := rfl
omit [Start] in
theorem set_app0 (h ls : Hp) (x : Ob) : (h ++ ls).set h.length x = h ++ ls.set 0 x := by simp
omit [Start] in
theorem set_app (h ls : Hp) (k : Nat) (x : Ob) : (h ++ ls).set (h.length + k) x = h ++ ls.set k x := by simp

omit [Start] in
theorem allSz_map {α : Type} (n : Nat) (f : α → D) (xs : List α) (hf : ∀ x, (f x).cells.length = n) : AllSz n (xs.map f) ↔ True := ⟨fun _ => trivial, fun _ e he => by
  obtain ⟨x, _, rfl⟩ := List.mem_map.1 he
  exact hf x⟩
omit [Start] in
theorem allSz_int (k : IntKind) (xs : List Int) : AllSz 1 (xs.map (D.int k)) ↔ True := allSz_map 1 _ xs (fun _ => rfl)
omit [Start] in
theorem allSz_str (xs : List (List UInt8)) : AllSz 1 (xs.map D.str) ↔ True := allSz_map 1 _ xs (fun _ => rfl)
omit [Start] in
theorem allSz_nil (n : Nat) : AllSz n [] ↔ True := by simp [AllSz]
omit [Start] in
theorem allSz_cons (n : Nat) (e : D) (es : List D) : AllSz n (e :: es) ↔ e.cells.length = n ∧ AllSz n es := by simp [AllSz]
omit [Start] in
theorem allSz_append (n : Nat) (es fs : List D) : AllSz n (es ++ fs) ↔ AllSz n es ∧ AllSz n fs := by
  simp only [AllSz, List.mem_append]
  exact ⟨fun h => ⟨fun e he => h e (.inl he), fun e he => h e (.inr he)⟩, fun h e he => he.elim (h.1 e) (h.2 e)⟩
omit [Start] in
theorem allSz_take_iff (n k : Nat) (es : List D) (h : AllSz n es) : AllSz n (es.take k) ↔ True := ⟨fun _ => trivial, fun _ => allSz_take h k⟩

omit [Start] in
theorem getD_ints (k : IntKind) (xs : List Int) (i : Nat) : (xs.map (D.int k)).getD i (.int k 0) = .int k (xs.getD i 0) := by
  simp only [List.getD_eq_getElem?_getD, List.getElem?_map]
  cases xs[i]? <;> rfl
omit [Start] in
theorem getD_strs (xs : List (List UInt8)) (i : Nat) : (xs.map D.str).getD i (.str []) = .str (xs.getD i []) := by
  simp only [List.getD_eq_getElem?_getD, List.getElem?_map]
  cases xs[i]? <;> rfl
omit [Start] in
theorem getD_map {α : Type} (f : α → D) (a : α) (xs : List α) (i : Nat) : (xs.map f).getD i (f a) = f (xs.getD i a) := by
  simp only [List.getD_eq_getElem?_getD, List.getElem?_map]
  cases xs[i]? <;> rfl

omit [Start] in
theorem natCast0 : ((0 : Nat) : Int) = 0 := rfl

omit [Start] in
theorem drop_map {α : Type} (f : α → D) (n : Nat) (xs : List α) : (xs.map f).drop n = (xs.drop n).map f := by rw [List.map_drop]
omit [Start] in
theorem take_map {α : Type} (f : α → D) (n : Nat) (xs : List α) : (xs.map f).take n = (xs.take n).map f := by rw [List.map_take]

/-! ### Loops -/

/-- A frame of which only these slots are known. -/
def frL (l : List (Nat × D)) : Fr := fun t => (l.lookup t).getD .junk

/-- The state behind a round (or ahead of the loop) may be seen as the head's state with these slots and these objects behind h. -/
def WeakTo (h : Hp) (n : Nat) (st : St) (l : List (Nat × D)) (ls0 : Hp) : Prop :=
  ∃ ls, st.h = h ++ ls ∧ n ≤ ls0.length ∧ ls0.length ≤ ls.length ∧ ls.take ls0.length = ls0 ∧ (∀ x, x ∈ ls0 → ObCl (h.length + ls0.length) x) ∧ ∀ p, p ∈ l → Wk (st.fr p.1) p.2 ∧ Cl (h.length + ls0.length) p.2

omit [Start] in
theorem lookup_mem {t : Nat} {d : D} : ∀ {l : List (Nat × D)}, l.lookup t = some d → (t, d) ∈ l
  | [], h => by simp at h
  | (u, e) :: l, h => by
    simp only [List.lookup] at h
    split at h
    · rename_i hu
      cases h
      have : t = u := by simpa using hu
      subst this
      exact List.mem_cons_self
    · exact List.mem_cons_of_mem _ (lookup_mem h)

omit [Start] in
theorem WeakTo.weak {h : Hp} {n : Nat} {st0 st : St} {l : List (Nat × D)} {ls0 lsh : Hp} (H : WeakTo h n st l ls0) (h0 : st0.h = h ++ lsh) (hn : lsh.length = n) : Weak st0 st ⟨frL l, h ++ ls0⟩ := by
  obtain ⟨ls, e1, e2, e3, e4, e5, e6⟩ := H
  refine ⟨by rw [h0]; simp; omega, by rw [e1]; simp; omega, ?_, fun r x hr => ?_, fun t => ?_⟩
  · rw [e1]
    simp only [List.length_append, List.take_append]
    rw [List.take_of_length_le (by omega), show h.length + ls0.length - h.length = ls0.length by omega, e4]
  · simp only at hr
    by_cases hk : r < h.length
    · rw [List.getElem?_append_left hk] at hr
      exact .inl (by rw [h0, List.getElem?_append_left hk]; exact hr)
    · rw [List.getElem?_append_right (by omega)] at hr
      refine .inr ?_
      have := e5 x (List.mem_of_getElem? hr)
      simpa using this
  · refine .inr ?_
    simp only [frL]
    cases hl : l.lookup t with
    | none => exact ⟨.junk _, .junk⟩
    | some d =>
      obtain ⟨k1, k2⟩ := e6 (t, d) (lookup_mem hl)
      exact ⟨k1, by simpa using k2⟩

omit [Start] in
theorem tokSt_h (st : St) (p : Nat × Nat) : ∃ e, (tokSt st p).h = st.h ++ e := by
  unfold tokSt
  split
  · exact ⟨_, rfl⟩
  · exact ⟨[], by simp⟩
omit [Start] in
theorem tokSts_h : ∀ (ps : List (Nat × Nat)) (st : St), ∃ e, (tokSts st ps).h = st.h ++ e
  | [], st => ⟨[], by simp [tokSts]⟩
  | p :: ps, st => by
    obtain ⟨e1, h1⟩ := tokSt_h st p
    obtain ⟨e2, h2⟩ := tokSts_h ps (tokSt st p)
    exact ⟨e1 ++ e2, by rw [tokSts, h2, h1, List.append_assoc]⟩

/-- The states that a loop's head is met in. -/
def LoopInv {α : Type} (h : Hp) (L : α → List (Nat × D)) (ls0 : α → Hp) (I : α → Prop) (μ : α → Nat) (m : Nat) (st' : St) : Prop := ∃ x, I x ∧ μ x = m ∧ st' = ⟨frL (L x), h ++ ls0 x⟩

omit [Start] in
theorem round_mk {n0 : Nat} {α : Type} {h : Hp} {L : α → List (Nat × D)} {ls0 : α → Hp} {I : α → Prop} {μ : α → Nat} {m : Nat} {fr : Fr} {ls : Hp} {st'' : St} (y : α) (h1 : I y) (h2 : μ y < m) (h3 : WeakTo h ls.length st'' (L y) (ls0 y)) :
    RoundOk n0 (LoopInv h L ls0 I μ) m ⟨fr, h ++ ls⟩ st'' :=
  ⟨μ y, ⟨frL (L y), h ++ ls0 y⟩, h2, ⟨y, h1, rfl, rfl⟩, .inl (h3.weak rfl rfl)⟩

omit [Start] in
theorem loop_mk {body : St → (Exit → St → Prop) → Prop} {Q : Exit → St → Prop} {fr : Fr} {h ls : Hp} {α : Type} (toks : List (Nat × Nat)) (L : α → List (Nat × D)) (ls0 : α → Hp) (I : α → Prop) (μ : α → Nat) (x0 : α)
    (ht : tokOks ⟨fr, h ++ ls⟩ toks) (hI : I x0) (hW : ∃ k, k ≤ (ls0 x0).length ∧ (tokSts ⟨fr, h ++ ls⟩ toks).h.length = h.length + k ∧ WeakTo h k (tokSts ⟨fr, h ++ ls⟩ toks) (L x0) (ls0 x0))
    (hround : ∀ x, I x → body ⟨frL (L x), h ++ ls0 x⟩ (thenE (RoundOk (h ++ ls).length (LoopInv h L ls0 I μ) (μ x) ⟨frL (L x), h ++ ls0 x⟩) Q)) : loopGo body Q ⟨fr, h ++ ls⟩ := by
  obtain ⟨k, _, hl, hW⟩ := hW
  refine ⟨[], toks, LoopInv h L ls0 I μ, ht, ⟨μ x0, _, ⟨x0, hI, rfl, rfl⟩, ?_⟩, ?_⟩
  · obtain ⟨e, he⟩ := tokSts_h toks ⟨fr, h ++ ls⟩
    refine hW.weak (lsh := ls ++ e) (by rw [show tokSts (vtSts ⟨fr, h ++ ls⟩ []) toks = tokSts ⟨fr, h ++ ls⟩ toks from rfl, he, List.append_assoc]) ?_
    rw [he] at hl
    simp only [List.length_append] at hl ⊢
    omega
  · rintro m st' ⟨x, hx, rfl, rfl⟩
    exact hround x hx
omit [Start] in
/-- A loop in which rows grow: vts names the slots that hold an empty slice at first. -/
theorem loopV_mk {body : St → (Exit → St → Prop) → Prop} {Q : Exit → St → Prop} {fr : Fr} {h ls : Hp} {α : Type} (vts : List (Nat × Bool × Nat)) (L : α → List (Nat × D)) (ls0 : α → Hp) (I : α → Prop) (μ : α → Nat) (x0 : α)
    (hI : I x0) (hW : ∃ lsh, (vtSts ⟨fr, h ++ ls⟩ vts).h = h ++ lsh ∧ WeakTo h lsh.length (vtSts ⟨fr, h ++ ls⟩ vts) (L x0) (ls0 x0))
    (hround : ∀ x, I x → body ⟨frL (L x), h ++ ls0 x⟩ (thenE (RoundOk (h ++ ls).length (LoopInv h L ls0 I μ) (μ x) ⟨frL (L x), h ++ ls0 x⟩) Q)) : loopGo body Q ⟨fr, h ++ ls⟩ := by
  obtain ⟨lsh, he, hW⟩ := hW
  refine ⟨vts, [], LoopInv h L ls0 I μ, trivial, ⟨μ x0, _, ⟨x0, hI, rfl, rfl⟩, ?_⟩, ?_⟩
  · exact hW.weak (lsh := lsh) he rfl
  · rintro m st' ⟨x, hx, rfl, rfl⟩
    exact hround x hx
/-- d, of whose objects k behind the first n are left out, may be seen as d'. -/
def RW (n k : Nat) (d d' : D) : Prop := (∃ d1, Ren n k d d1 ∧ Wk d1 d') ∨ (Wk d d' ∧ Cl n d')
omit [Start] in
theorem rw_vec {n k : Nat} {r r' : Nat} {ag : Bool} {sz off len cp cp' : Nat} (hr : r = r' + k) (hn : n ≤ r') (h1 : len ≤ cp') (h2 : cp' ≤ cp) : RW n k (.vec r ag sz off len cp) (.vec r' ag sz off len cp') := by
  subst hr
  exact .inl ⟨_, .vec r' ag sz off len cp hn, .vec _ _ _ _ _ _ _ h1 h2⟩
omit [Start] in
theorem rw_old {n k : Nat} {d d' : D} (h1 : Wk d d') (h2 : Cl n d') : RW n k d d' := .inr ⟨h1, h2⟩
omit [Start] in
/-- The round's end where objects are left out: behind 'pre' junk lay, and rows1, which are rows2 now. -/
theorem round_mkC {n0 : Nat} {α : Type} {h : Hp} {L : α → List (Nat × D)} {ls0 : α → Hp} {I : α → Prop} {μ : α → Nat} {m : Nat} {fr : Fr} {ls : Hp} {st'' : St} (y : α) (h1 : I y) (h2 : μ y < m) (pre junk rows1 rows2 : Hp)
    (hh : st''.h = h ++ (pre ++ (junk ++ rows1))) (h0 : ls0 y = pre ++ rows2) (hn : n0 ≤ h.length + pre.length) (hcl : ∀ (r : Nat) x, h[r]? = some x → ObCl h.length x) (hpre : ∀ x, x ∈ pre → ObCl (h.length + pre.length) x)
    (hl : rows2.length = rows1.length) (hr : ∀ j (h1 : j < rows1.length) (h2 : j < rows2.length), RenOb (h.length + pre.length) junk.length (rows1[j]) (rows2[j]))
    (hs : ∀ p, p ∈ L y → RW (h.length + pre.length) junk.length (st''.fr p.1) p.2) : RoundOk n0 (LoopInv h L ls0 I μ) m ⟨fr, h ++ ls⟩ st'' := by
  refine ⟨μ y, ⟨frL (L y), h ++ ls0 y⟩, h2, ⟨y, h1, rfl, rfl⟩, .inr ⟨⟨h ++ pre, junk, rows1, rows2, by simpa using hn, by rw [hh, List.append_assoc], by rw [h0, List.append_assoc], fun r x hx => ?_, hl, fun j a b => by simpa using hr j a b, fun t => ?_⟩⟩⟩
  · rw [List.length_append]
    by_cases hrl : r < h.length
    · rw [List.getElem?_append_left hrl] at hx
      exact (hcl r x hx).mono' (by omega)
    · rw [List.getElem?_append_right (by omega)] at hx
      exact hpre x (List.mem_of_getElem? hx)
  · rw [List.length_append]
    simp only [frL]
    cases hq : (L y).lookup t with
    | none => exact .inr ⟨.junk _, .junk⟩
    | some d => exact hs (t, d) (lookup_mem hq)
end Go.Av

/- Laws for evaluating: each form of code and each operation at a state that is written out. -/
namespace Go.Av
set_option linter.unusedSectionVars false
variable [Start]

/-- A call is next. -/
def CallSt (P : Program) (mu : List Nat) (ops rest : List Oper) (dst : Option Tmp) (fr : Fr) (h : Hp) (K : St → Prop) (f : FuncId) (args : List D) : Prop :=
  ∃ Q as, Meets P f as h Q ∧ WkL args as ∧ ∀ d h', Q d h' → evOps P mu ops rest ⟨putO fr dst d, h'⟩ K
/-- A guarded call is next. -/
def CallG (P : Program) (mu : List Nat) (ops rest : List Oper) (dst : Option Tmp) (fr : Fr) (h : Hp) (K : St → Prop) (c : Bool) (f : FuncId) (args : List D) : Prop :=
  ∃ d as, (c = true → Gives P f as h d ∧ WkL args as) ∧ evOps P mu ops rest ⟨putO fr dst (.when c d), h⟩ K
/-- A call in a region that draws its order. -/
def CallQ (P : Program) (ops rest : List Oper) (dst : Option Tmp) (fr : Fr) (h : Hp) (K : St → Prop) (f : FuncId) (args : List D) : Prop :=
  ∃ d as, (Gives P f as h d ∧ WkL args as) ∧ evQs P ops rest ⟨putO fr dst d, h⟩ K
/-- A guarded one. -/
def CallQG (P : Program) (ops rest : List Oper) (dst : Option Tmp) (fr : Fr) (h : Hp) (K : St → Prop) (c : Bool) (f : FuncId) (args : List D) : Prop :=
  ∃ d as, (c = true → Gives P f as h d ∧ WkL args as) ∧ evQs P ops rest ⟨putO fr dst (.when c d), h⟩ K

section
variable {P : Program} {mu : List Nat} {ops rest : List Oper} {dst : Option Tmp} {fr : Fr} {h : Hp} {K : St → Prop} {ty : TypeId} {pos : String} {af : Array Edge} {g : Nat × Bool} {Q : Exit → St → Prop}

theorem call_gives {f : FuncId} {args as : List D} {d : D} (c : Gives P f as h d) (hw : WkL args as) (k : evOps P mu ops rest ⟨putO fr dst d, h⟩ K) : CallSt P mu ops rest dst fr h K f args :=
  ⟨_, as, c, hw, fun _ _ ⟨e1, e2⟩ => by subst e1 e2; exact k⟩
theorem call_meets {f : FuncId} {args as : List D} {R : D → Hp → Prop} (c : Meets P f as h R) (hw : WkL args as) (k : ∀ d h', R d h' → evOps P mu ops rest ⟨putO fr dst d, h'⟩ K) : CallSt P mu ops rest dst fr h K f args :=
  ⟨R, as, c, hw, k⟩
theorem callG_gives {f : FuncId} {args as : List D} {d : D} {c : Bool} (hc : c = true → Gives P f as h d) (hw : c = true → WkL args as) (k : evOps P mu ops rest ⟨putO fr dst (.when c d), h⟩ K) : CallG P mu ops rest dst fr h K c f args :=
  ⟨d, as, fun e => ⟨hc e, hw e⟩, k⟩
theorem callQ_gives {f : FuncId} {args as : List D} {d : D} (c : Gives P f as h d) (hw : WkL args as) (k : evQs P ops rest ⟨putO fr dst d, h⟩ K) : CallQ P ops rest dst fr h K f args := ⟨d, as, ⟨c, hw⟩, k⟩
theorem callQG_gives {f : FuncId} {args as : List D} {d : D} {c : Bool} (hc : c = true → Gives P f as h d) (hw : c = true → WkL args as) (k : evQs P ops rest ⟨putO fr dst (.when c d), h⟩ K) : CallQG P ops rest dst fr h K c f args :=
  ⟨d, as, fun e => ⟨hc e, hw e⟩, k⟩

theorem evo_nil : evOps P mu ops [] ⟨fr, h⟩ K = K ⟨fr, h⟩ := rfl
theorem evq_nil : evQs P ops [] ⟨fr, h⟩ K = K ⟨fr, h⟩ := rfl

theorem quiet_pure {o : Oper} {st : St} {K : D → Prop} (hc : ∀ f args ts, o.op ≠ .call ⟨.value f, args, ts⟩) (hG : isG P o.op = false) : quietOp P ops o st K = (gok st.fr ops o.guard ∧ quietPure P ops o st K) := by
  unfold quietOp
  simp only [hG, Bool.false_eq_true, if_false]

theorem evo_pure {op : Op} (hl : isLoud op = false) (hc : ∀ f args ts, op ≠ .call ⟨.value f, args, ts⟩) (hG : isG P op = false := by rfl) (hcv : isConv op = false := by rfl) : evOps P mu ops (⟨dst, op, ty, pos, af, none⟩ :: rest) ⟨fr, h⟩ K = (pureOk P ⟨fr, h⟩ op ∧ evOps P mu ops rest ⟨putO fr dst (pureD P ⟨fr, h⟩ op), h⟩ K) := by
  apply propext
  have hcv : (isConv op && muHas mu dst) = false := by rw [hcv]; rfl
  simp only [evOps, evOp, hl, hcv, Bool.false_eq_true, if_false, quiet_pure (o := ⟨dst, op, ty, pos, af, none⟩) hc hG, quietPure, gok, gcond, wrapG, true_and, true_implies]
theorem evg_pure {op : Op} (hc : ∀ f args ts, op ≠ .call ⟨.value f, args, ts⟩) (hG : isG P op = false := by rfl) : evOps P mu ops (⟨dst, op, ty, pos, af, some g⟩ :: rest) ⟨fr, h⟩ K = (gok fr ops (some g) ∧ (gcond fr ops (some g) = true → pureOk P ⟨fr, h⟩ op) ∧ evOps P mu ops rest ⟨putO fr dst (.when (gcond fr ops (some g)) (pureD P ⟨fr, h⟩ op)), h⟩ K) := by
  apply propext
  have hv : isCallV op = false := by
    unfold isCallV
    split
    · rename_i f args ts; exact absurd rfl (hc f args ts)
    · rfl
  simp only [evOps, evOp, hv, Bool.and_false, Bool.false_eq_true, if_false, quiet_pure (o := ⟨dst, op, ty, pos, af, some g⟩) hc hG, quietPure, wrapG]
theorem evq_pure {op : Op} (hc : ∀ f args ts, op ≠ .call ⟨.value f, args, ts⟩) (hG : isG P op = false := by rfl) : evQs P ops (⟨dst, op, ty, pos, af, none⟩ :: rest) ⟨fr, h⟩ K = (pureOk P ⟨fr, h⟩ op ∧ evQs P ops rest ⟨putO fr dst (pureD P ⟨fr, h⟩ op), h⟩ K) := by
  apply propext
  simp only [evQs, quiet_pure (o := ⟨dst, op, ty, pos, af, none⟩) hc hG, quietPure, gok, gcond, wrapG, true_and, true_implies]
theorem evqg_pure {op : Op} (hc : ∀ f args ts, op ≠ .call ⟨.value f, args, ts⟩) (hG : isG P op = false := by rfl) : evQs P ops (⟨dst, op, ty, pos, af, some g⟩ :: rest) ⟨fr, h⟩ K = (gok fr ops (some g) ∧ (gcond fr ops (some g) = true → pureOk P ⟨fr, h⟩ op) ∧ evQs P ops rest ⟨putO fr dst (.when (gcond fr ops (some g)) (pureD P ⟨fr, h⟩ op)), h⟩ K) := by
  apply propext
  simp only [evQs, quiet_pure (o := ⟨dst, op, ty, pos, af, some g⟩) hc hG, quietPure, wrapG]

theorem evo_call (f : Operand) (args : Array Operand) (ts : Array TypeId) : evOps P mu ops (⟨dst, .call ⟨.value f, args, ts⟩, ty, pos, af, none⟩ :: rest) ⟨fr, h⟩ K =
    (ok1 fr f ∧ isFn (vl fr f) ∧ allOk1 fr args.toList ∧ CallSt P mu ops rest dst fr h K (fnId (vl fr f)) (args.toList.map (vl fr) ++ fnCaps (vl fr f))) := rfl
/-- A guarded call that is not made. -/
def SkipG (P : Program) (mu : List Nat) (ops rest : List Oper) (dst : Option Tmp) (fr : Fr) (h : Hp) (K : St → Prop) : Prop := ∃ d, evOps P mu ops rest ⟨putO fr dst (.when false d), h⟩ K
theorem skipG (k : evOps P mu ops rest ⟨putO fr dst (.when false .junk), h⟩ K) : SkipG P mu ops rest dst fr h K := ⟨_, k⟩
theorem evg_call (f : Operand) (args : Array Operand) (ts : Array TypeId) : evOps P mu ops (⟨dst, .call ⟨.value f, args, ts⟩, ty, pos, af, some g⟩ :: rest) ⟨fr, h⟩ K =
    (gok fr ops (some g) ∧ (gcond fr ops (some g) = true → ok1 fr f ∧ isFn (vl fr f) ∧ allOk1 fr args.toList) ∧
      if muG mu dst = true then (gcond fr ops (some g) = true → CallSt P mu ops rest dst fr h K (fnId (vl fr f)) (args.toList.map (vl fr) ++ fnCaps (vl fr f))) ∧ (gcond fr ops (some g) = false → SkipG P mu ops rest dst fr h K)
      else CallG P mu ops rest dst fr h K (gcond fr ops (some g)) (fnId (vl fr f)) (args.toList.map (vl fr) ++ fnCaps (vl fr f))) := by
  apply propext
  cases hm : muG mu dst with
  | false =>
    simp only [evOps, evOp, hm, Bool.false_and, Bool.false_eq_true, if_false]
    constructor
    · rintro ⟨h1, d, as, h2, h3⟩
      exact ⟨h1, fun e => ⟨(h2 e).1, (h2 e).2.1, (h2 e).2.2.1⟩, d, as, fun e => (h2 e).2.2.2, h3⟩
    · rintro ⟨h1, h2, d, as, h3, h4⟩
      exact ⟨h1, d, as, fun e => ⟨(h2 e).1, (h2 e).2.1, (h2 e).2.2, h3 e⟩, h4⟩
  | true =>
    simp only [evOps, evOp, hm, Bool.true_and, isCallV, if_true]
    constructor
    · rintro ⟨h1, h2, h3⟩
      refine ⟨h1, fun e => ⟨(h2 e).1, (h2 e).2.1, (h2 e).2.2.1⟩, fun e => (h2 e).2.2.2, fun e => ?_⟩
      obtain ⟨_, d, as, _, k⟩ := h3 e
      simp only [e, wrapG] at k
      exact ⟨d, k⟩
    · rintro ⟨h1, h2, h3, h4⟩
      refine ⟨h1, fun e => ⟨(h2 e).1, (h2 e).2.1, (h2 e).2.2, h3 e⟩, fun e => ?_⟩
      obtain ⟨d, k⟩ := h4 e
      refine ⟨h1, d, [], fun e' => absurd e' (by rw [e]; exact Bool.false_ne_true), ?_⟩
      simp only [e, wrapG]
      exact k
theorem evq_call (f : Operand) (args : Array Operand) (ts : Array TypeId) : evQs P ops (⟨dst, .call ⟨.value f, args, ts⟩, ty, pos, af, none⟩ :: rest) ⟨fr, h⟩ K =
    (ok1 fr f ∧ isFn (vl fr f) ∧ allOk1 fr args.toList ∧ CallQ P ops rest dst fr h K (fnId (vl fr f)) (args.toList.map (vl fr) ++ fnCaps (vl fr f))) := by
  apply propext
  constructor
  · rintro ⟨_, d, as, h2, h3⟩
    exact ⟨(h2 rfl).1, (h2 rfl).2.1, (h2 rfl).2.2.1, d, as, (h2 rfl).2.2.2, h3⟩
  · rintro ⟨h1, h2, h3, d, as, h4, h5⟩
    exact ⟨trivial, d, as, fun _ => ⟨h1, h2, h3, h4⟩, h5⟩
theorem evqg_call (f : Operand) (args : Array Operand) (ts : Array TypeId) : evQs P ops (⟨dst, .call ⟨.value f, args, ts⟩, ty, pos, af, some g⟩ :: rest) ⟨fr, h⟩ K =
    (gok fr ops (some g) ∧ (gcond fr ops (some g) = true → ok1 fr f ∧ isFn (vl fr f) ∧ allOk1 fr args.toList) ∧ CallQG P ops rest dst fr h K (gcond fr ops (some g)) (fnId (vl fr f)) (args.toList.map (vl fr) ++ fnCaps (vl fr f))) := by
  apply propext
  constructor
  · rintro ⟨h1, d, as, h2, h3⟩
    exact ⟨h1, fun e => ⟨(h2 e).1, (h2 e).2.1, (h2 e).2.2.1⟩, d, as, fun e => (h2 e).2.2.2, h3⟩
  · rintro ⟨h1, h2, d, as, h3, h4⟩
    exact ⟨h1, d, as, fun e => ⟨(h2 e).1, (h2 e).2.1, (h2 e).2.2, h3 e⟩, h4⟩

theorem evo_alloc (t : TypeId) : evOps P mu ops (⟨dst, .alloc t, ty, pos, af, none⟩ :: rest) ⟨fr, h⟩ K = ((ti P t).zero.isEmpty = false ∧ evOps P mu ops rest ⟨putO fr dst (.ptr h.length 0), h ++ [.row (ti P t).zero]⟩ K) := rfl
theorem evo_box (t : TypeId) (x : Operand) : evOps P mu ops (⟨dst, .box t x, ty, pos, af, none⟩ :: rest) ⟨fr, h⟩ K = (ok1 fr x ∧ solid (vl fr x) ∧ evOps P mu ops rest ⟨putO fr dst (.ptr h.length 0), h ++ [.row (vl fr x).cells]⟩ K) := rfl
theorem evo_store (t : TypeId) (x y : Operand) : evOps P mu ops (⟨dst, .store t x y, ty, pos, af, none⟩ :: rest) ⟨fr, h⟩ K =
    (ok1 fr x ∧ ok1 fr y ∧ storeOk P t h (vl fr x) (vl fr y) ∧ evOps P mu ops rest ⟨putO fr dst .junk, storeH h (vl fr x) (vl fr y)⟩ K) := rfl
theorem evo_bs (t : TypeId) (n : Nat) (parts : Array (Nat × Operand)) : evOps P mu ops (⟨dst, .buildSlice t n parts, ty, pos, af, none⟩ :: rest) ⟨fr, h⟩ K =
    (allOk1 fr (parts.toList.map (·.2)) ∧ bsOk P t n (parts.toList.map (·.1)) (parts.toList.map fun p => vl fr p.2) ∧
      if muHas mu dst then evOps P mu ops rest ⟨putO fr dst (.vec h.length (isAg (ti P (ti P t).elem).kind) (ti P (ti P t).elem).sz 0 n n), h ++ [.row (flat (parts.toList.map fun p => vl fr p.2))]⟩ K
      else (∀ e, e ∈ parts.toList.map (fun p => vl fr p.2) → Cl 0 e) ∧ evOps P mu ops rest ⟨putO fr dst (.slice (parts.toList.map fun p => vl fr p.2) .full), h⟩ K) := rfl

theorem evo_make (t : TypeId) (x y : Operand) : evOps P mu ops (⟨dst, .makeSlice t x y, ty, pos, af, none⟩ :: rest) ⟨fr, h⟩ K =
    (if muHas mu dst = true then ok1 fr x ∧ ok1 fr y ∧ mk0Ok P t (vl fr x) (vl fr y) ∧ evOps P mu ops rest ⟨putO fr dst (.slice [] (.buf h.length (ti P (ti P t).elem).sz)), h ++ [.buf 0]⟩ K else ok1 fr x ∧ ok1 fr y ∧ mkOk P t (vl fr x) (vl fr y) ∧ evOps P mu ops rest ⟨putO fr dst (.vec h.length (isAg (ti P (ti P t).elem).kind) (ti P (ti P t).elem).sz 0 (iof (vl fr x)).toNat (iof (vl fr x)).toNat), h ++ [.row (zeros (ti P (ti P t).elem).zero (iof (vl fr x)).toNat)]⟩ K) := rfl

/-- append -/
def AppSt (P : Program) (mu : List Nat) (ops rest : List Oper) (dst : Option Tmp) (fr : Fr) (h : Hp) (K : St → Prop) (t : TypeId) (s x : D) : Prop := appGo P (muHas mu dst) t h s x fun d h' => evOps P mu ops rest ⟨putO fr dst d, h'⟩ K
def AppZ (P : Program) (mu : List Nat) (ops rest : List Oper) (dst : Option Tmp) (fr : Fr) (h : Hp) (K : St → Prop) (t : TypeId) (s x : D) : Prop := appZ P (muHas mu dst) t h s x fun d h' => evOps P mu ops rest ⟨putO fr dst d, h'⟩ K
theorem evo_append (s x : Operand) (t t' : TypeId) : evOps P mu ops (⟨dst, .call ⟨.builtin .append, #[s, x], #[t, t']⟩, ty, pos, af, none⟩ :: rest) ⟨fr, h⟩ K =
    (if intKB (ti P t').kind = true then ok1 fr s ∧ ok1 fr x ∧ AppZ P mu ops rest dst fr h K t (vl fr s) (vl fr x) else t' = t ∧ ok1 fr s ∧ ok1 fr x ∧ AppSt P mu ops rest dst fr h K t (vl fr s) (vl fr x)) := rfl
theorem appz_cap (t : TypeId) (es : List D) (c : Nat) (kk : IntKind) (k : Int) : AppZ P mu ops rest dst fr h K t (.slice es (.cap c)) (.int kk k) =
    (appOk P t es [] ∧ (0 ≤ k ∧ c < es.length + k.toNat ∧ es.length + k.toNat ≤ lenMax ∧ (es.length + k.toNat) * (ti P (ti P t).elem).bs ≤ 140737488355328) ∧ muHas mu dst = true ∧
      evOps P mu ops rest ⟨putO fr dst (.vec h.length (isAg (ti P (ti P t).elem).kind) (ti P (ti P t).elem).sz 0 (es.length + k.toNat) (es.length + k.toNat)), h ++ [.row (flat es ++ zeros (ti P (ti P t).elem).zero k.toNat)]⟩ K) := rfl
theorem app_full_st (t : TypeId) (es news : List D) (t2 : Tok) : AppSt P mu ops rest dst fr h K t (.slice es .full) (.slice news t2) =
    (appOk P t es news ∧ if muHas mu dst then (es = [] ∨ news ≠ []) ∧ evOps P mu ops rest ⟨putO fr dst (.vec h.length (isAg (ti P (ti P t).elem).kind) (ti P (ti P t).elem).sz 0 (es.length + news.length) (es.length + news.length)), h ++ [.row (flat es ++ flat news)]⟩ K
     else evOps P mu ops rest ⟨putO fr dst (.slice (es ++ news) (.buf h.length (ti P (ti P t).elem).sz)), h ++ [.buf ((es.length + news.length) * (ti P (ti P t).elem).sz)]⟩ K) := rfl
theorem app_buf_st (t : TypeId) (es news : List D) (r sz : Nat) (t2 : Tok) : AppSt P mu ops rest dst fr h K t (.slice es (.buf r sz)) (.slice news t2) =
    (appOk P t es news ∧ sz = (ti P (ti P t).elem).sz ∧ isBuf (ob h r) (es.length * (ti P (ti P t).elem).sz) ∧ evOps P mu ops rest ⟨putO fr dst (.slice (es ++ news) (.buf r sz)), h.set r (.buf ((es.length + news.length) * (ti P (ti P t).elem).sz))⟩ K) := rfl

theorem app_vec_st (t : TypeId) (r : Nat) (ag : Bool) (sz off len cp : Nat) (x : D) : AppSt P mu ops rest dst fr h K t (.vec r ag sz off len cp) x =
    if muHas mu dst then (growOk P t h (.vec r ag sz off len cp) x ∧ evOps P mu ops rest ⟨putO fr dst (growD h (.vec r ag sz off len cp) x), growH h (.vec r ag sz off len cp) x⟩ K)
    else (appVok P t h (.vec r ag sz off len cp) x ∧ evOps P mu ops rest ⟨putO fr dst (appVd (.vec r ag sz off len cp) x), appVh h (.vec r ag sz off len cp) x⟩ K) := by cases x <;> rfl
theorem evo_copy (s x : Operand) (t t' : TypeId) : evOps P mu ops (⟨dst, .call ⟨.builtin .copy, #[s, x], #[t, t']⟩, ty, pos, af, none⟩ :: rest) ⟨fr, h⟩ K =
    (ok1 fr s ∧ ok1 fr x ∧ copyOk P t h (vl fr s) (vl fr x) ∧ evOps P mu ops rest ⟨putO fr dst (copyD (vl fr s) (vl fr x)), copyH h (vl fr s) (vl fr x)⟩ K) := rfl
theorem evo_clear (s : Operand) (t : TypeId) : evOps P mu ops (⟨dst, .call ⟨.builtin .clear, #[s], #[t]⟩, ty, pos, af, none⟩ :: rest) ⟨fr, h⟩ K =
    (ok1 fr s ∧ clearOk P t h (vl fr s) ∧ evOps P mu ops rest ⟨putO fr dst .junk, clearH P t h (vl fr s)⟩ K) := rfl
theorem evo_nileq (t : TypeId) (x : Operand) (u : TypeId) : evOps P mu ops (⟨dst, .binOp .eql t x (.const (.slice none 0 0)) u, ty, pos, af, none⟩ :: rest) ⟨fr, h⟩ K =
    (ok1 fr x ∧ nilOk P t (vl fr x) ∧ (srcN (vl fr x) = 0 → evOps P mu ops rest ⟨putO fr dst (.bool true), h⟩ K) ∧ evOps P mu ops rest ⟨putO fr dst (.bool false), h⟩ K) := rfl
theorem evo_nilne (t : TypeId) (x : Operand) (u : TypeId) : evOps P mu ops (⟨dst, .binOp .neq t x (.const (.slice none 0 0)) u, ty, pos, af, none⟩ :: rest) ⟨fr, h⟩ K =
    (ok1 fr x ∧ nilOk P t (vl fr x) ∧ (srcN (vl fr x) = 0 → evOps P mu ops rest ⟨putO fr dst (.bool false), h⟩ K) ∧ evOps P mu ops rest ⟨putO fr dst (.bool true), h⟩ K) := rfl

theorem ev_skip : ev P mu .skip Q ⟨fr, h⟩ = Q .normal ⟨fr, h⟩ := rfl
theorem ev_label (l : Nat) : ev P mu (.label l) Q ⟨fr, h⟩ = Q .normal ⟨fr, h⟩ := rfl
theorem ev_region (id : Nat) (l : Array Oper) : ev P mu (.region id l false) Q ⟨fr, h⟩ = evOps P mu l.toList l.toList ⟨fr, h⟩ (Q .normal) := rfl
theorem ev_draw (id : Nat) (l : Array Oper) : ev P mu (.region id l true) Q ⟨fr, h⟩ = if hasStore l.toList || mu.contains (1000000 + id) then InX P l.toList ⟨fr, h⟩ (Q .normal) else evQs P l.toList l.toList ⟨fr, h⟩ (Q .normal) := rfl
theorem ev_seq (a b : Code) : ev P mu (.seq a b) Q ⟨fr, h⟩ = ev P mu a (thenE (ev P mu b Q) Q) ⟨fr, h⟩ := rfl
theorem ev_cond (c : Operand) (a b : Code) : ev P mu (.cond c a b) Q ⟨fr, h⟩ = (ok1 fr c ∧ isBool (vl fr c) ∧ (bof (vl fr c) = true → ev P mu a Q ⟨fr, h⟩) ∧ (bof (vl fr c) = false → ev P mu b Q ⟨fr, h⟩)) := rfl
theorem ev_block (id : Nat) (c : Code) : ev P mu (.block id c) Q ⟨fr, h⟩ = ev P mu c (blockE id Q) ⟨fr, h⟩ := rfl
theorem ev_exit (id : Nat) : ev P mu (.exit id) Q ⟨fr, h⟩ = Q (.exit id) ⟨fr, h⟩ := rfl
theorem ev_ret : ev P mu .ret Q ⟨fr, h⟩ = Q .ret ⟨fr, h⟩ := rfl
omit [Start] in
theorem then_normal (next : St → Prop) : thenE next Q .normal ⟨fr, h⟩ = next ⟨fr, h⟩ := rfl
omit [Start] in
theorem then_exit (next : St → Prop) (id : Nat) : thenE next Q (.exit id) ⟨fr, h⟩ = Q (.exit id) ⟨fr, h⟩ := rfl
omit [Start] in
theorem then_ret (next : St → Prop) : thenE next Q .ret ⟨fr, h⟩ = Q .ret ⟨fr, h⟩ := rfl
omit [Start] in
theorem block_normal (id : Nat) : blockE id Q .normal ⟨fr, h⟩ = Q .normal ⟨fr, h⟩ := rfl
omit [Start] in
theorem block_exit (id id' : Nat) : blockE id Q (.exit id') ⟨fr, h⟩ = if id' = id then Q .normal ⟨fr, h⟩ else Q (.exit id') ⟨fr, h⟩ := rfl
omit [Start] in
theorem block_ret (id : Nat) : blockE id Q .ret ⟨fr, h⟩ = Q .ret ⟨fr, h⟩ := rfl
omit [Start] in
theorem fin_normal (rs : List ResultVar) (h0 : Hp) (R : D → Hp → Prop) : fin P rs h0 R .normal ⟨fr, h⟩ = finS P rs h0 R ⟨fr, h⟩ := rfl
omit [Start] in
theorem fin_ret (rs : List ResultVar) (h0 : Hp) (R : D → Hp → Prop) : fin P rs h0 R .ret ⟨fr, h⟩ = finS P rs h0 R ⟨fr, h⟩ := rfl

theorem ev_loop {c : Code} {ls : Hp} {α : Type} (toks : List (Nat × Nat)) (L : α → List (Nat × D)) (ls0 : α → Hp) (I : α → Prop) (μ : α → Nat) (x0 : α)
    (ht : tokOks ⟨fr, h ++ ls⟩ toks) (hI : I x0) (hW : ∃ k, k ≤ (ls0 x0).length ∧ (tokSts ⟨fr, h ++ ls⟩ toks).h.length = h.length + k ∧ WeakTo h k (tokSts ⟨fr, h ++ ls⟩ toks) (L x0) (ls0 x0))
    (hround : ∀ x, I x → ev P mu c (thenE (RoundOk (h ++ ls).length (LoopInv h L ls0 I μ) (μ x) ⟨frL (L x), h ++ ls0 x⟩) Q) ⟨frL (L x), h ++ ls0 x⟩) : ev P mu (.loop c) Q ⟨fr, h ++ ls⟩ :=
  loop_mk toks L ls0 I μ x0 ht hI hW hround
theorem ev_loopV {c : Code} {ls : Hp} {α : Type} (vts : List (Nat × Bool × Nat)) (L : α → List (Nat × D)) (ls0 : α → Hp) (I : α → Prop) (μ : α → Nat) (x0 : α)
    (hI : I x0) (hW : ∃ lsh, (vtSts ⟨fr, h ++ ls⟩ vts).h = h ++ lsh ∧ WeakTo h lsh.length (vtSts ⟨fr, h ++ ls⟩ vts) (L x0) (ls0 x0))
    (hround : ∀ x, I x → ev P mu c (thenE (RoundOk (h ++ ls).length (LoopInv h L ls0 I μ) (μ x) ⟨frL (L x), h ++ ls0 x⟩) Q) ⟨frL (L x), h ++ ls0 x⟩) : ev P mu (.loop c) Q ⟨fr, h ++ ls⟩ :=
  loopV_mk vts L ls0 I μ x0 hI hW hround
theorem evo_move (x : Operand) : evOps P mu ops (⟨dst, .move x, ty, pos, af, none⟩ :: rest) ⟨fr, h⟩ K = (pureOk P ⟨fr, h⟩ (.move x) ∧ evOps P mu ops rest ⟨putO fr dst (pureD P ⟨fr, h⟩ (.move x)), h⟩ K) := evo_pure rfl (by intro f args ts e; cases e)
theorem evg_move (x : Operand) : evOps P mu ops (⟨dst, .move x, ty, pos, af, some g⟩ :: rest) ⟨fr, h⟩ K = (gok fr ops (some g) ∧ (gcond fr ops (some g) = true → pureOk P ⟨fr, h⟩ (.move x)) ∧ evOps P mu ops rest ⟨putO fr dst (.when (gcond fr ops (some g)) (pureD P ⟨fr, h⟩ (.move x))), h⟩ K) := evg_pure (by intro f args ts e; cases e)
theorem evq_move (x : Operand) : evQs P ops (⟨dst, .move x, ty, pos, af, none⟩ :: rest) ⟨fr, h⟩ K = (pureOk P ⟨fr, h⟩ (.move x) ∧ evQs P ops rest ⟨putO fr dst (pureD P ⟨fr, h⟩ (.move x)), h⟩ K) := evq_pure (by intro f args ts e; cases e)
theorem evqg_move (x : Operand) : evQs P ops (⟨dst, .move x, ty, pos, af, some g⟩ :: rest) ⟨fr, h⟩ K = (gok fr ops (some g) ∧ (gcond fr ops (some g) = true → pureOk P ⟨fr, h⟩ (.move x)) ∧ evQs P ops rest ⟨putO fr dst (.when (gcond fr ops (some g)) (pureD P ⟨fr, h⟩ (.move x))), h⟩ K) := evqg_pure (by intro f args ts e; cases e)
theorem evo_assign (x : Operand) : evOps P mu ops (⟨dst, .assign x, ty, pos, af, none⟩ :: rest) ⟨fr, h⟩ K = (pureOk P ⟨fr, h⟩ (.assign x) ∧ evOps P mu ops rest ⟨putO fr dst (pureD P ⟨fr, h⟩ (.assign x)), h⟩ K) := evo_pure rfl (by intro f args ts e; cases e)
theorem evg_assign (x : Operand) : evOps P mu ops (⟨dst, .assign x, ty, pos, af, some g⟩ :: rest) ⟨fr, h⟩ K = (gok fr ops (some g) ∧ (gcond fr ops (some g) = true → pureOk P ⟨fr, h⟩ (.assign x)) ∧ evOps P mu ops rest ⟨putO fr dst (.when (gcond fr ops (some g)) (pureD P ⟨fr, h⟩ (.assign x))), h⟩ K) := evg_pure (by intro f args ts e; cases e)
theorem evq_assign (x : Operand) : evQs P ops (⟨dst, .assign x, ty, pos, af, none⟩ :: rest) ⟨fr, h⟩ K = (pureOk P ⟨fr, h⟩ (.assign x) ∧ evQs P ops rest ⟨putO fr dst (pureD P ⟨fr, h⟩ (.assign x)), h⟩ K) := evq_pure (by intro f args ts e; cases e)
theorem evqg_assign (x : Operand) : evQs P ops (⟨dst, .assign x, ty, pos, af, some g⟩ :: rest) ⟨fr, h⟩ K = (gok fr ops (some g) ∧ (gcond fr ops (some g) = true → pureOk P ⟨fr, h⟩ (.assign x)) ∧ evQs P ops rest ⟨putO fr dst (.when (gcond fr ops (some g)) (pureD P ⟨fr, h⟩ (.assign x))), h⟩ K) := evqg_pure (by intro f args ts e; cases e)
theorem evo_pick (c x y : Operand) : evOps P mu ops (⟨dst, .pick c x y, ty, pos, af, none⟩ :: rest) ⟨fr, h⟩ K = (pureOk P ⟨fr, h⟩ (.pick c x y) ∧ evOps P mu ops rest ⟨putO fr dst (pureD P ⟨fr, h⟩ (.pick c x y)), h⟩ K) := evo_pure rfl (by intro f args ts e; cases e)
theorem evg_pick (c x y : Operand) : evOps P mu ops (⟨dst, .pick c x y, ty, pos, af, some g⟩ :: rest) ⟨fr, h⟩ K = (gok fr ops (some g) ∧ (gcond fr ops (some g) = true → pureOk P ⟨fr, h⟩ (.pick c x y)) ∧ evOps P mu ops rest ⟨putO fr dst (.when (gcond fr ops (some g)) (pureD P ⟨fr, h⟩ (.pick c x y))), h⟩ K) := evg_pure (by intro f args ts e; cases e)
theorem evq_pick (c x y : Operand) : evQs P ops (⟨dst, .pick c x y, ty, pos, af, none⟩ :: rest) ⟨fr, h⟩ K = (pureOk P ⟨fr, h⟩ (.pick c x y) ∧ evQs P ops rest ⟨putO fr dst (pureD P ⟨fr, h⟩ (.pick c x y)), h⟩ K) := evq_pure (by intro f args ts e; cases e)
theorem evqg_pick (c x y : Operand) : evQs P ops (⟨dst, .pick c x y, ty, pos, af, some g⟩ :: rest) ⟨fr, h⟩ K = (gok fr ops (some g) ∧ (gcond fr ops (some g) = true → pureOk P ⟨fr, h⟩ (.pick c x y)) ∧ evQs P ops rest ⟨putO fr dst (.when (gcond fr ops (some g)) (pureD P ⟨fr, h⟩ (.pick c x y))), h⟩ K) := evqg_pure (by intro f args ts e; cases e)
theorem evo_load (t : TypeId) (x : Tmp) : evOps P mu ops (⟨dst, .load t (.tmp x), ty, pos, af, none⟩ :: rest) ⟨fr, h⟩ K = (pureOk P ⟨fr, h⟩ (.load t (.tmp x)) ∧ evOps P mu ops rest ⟨putO fr dst (pureD P ⟨fr, h⟩ (.load t (.tmp x))), h⟩ K) := evo_pure rfl (by intro f args ts e; cases e)
theorem evg_load (t : TypeId) (x : Tmp) : evOps P mu ops (⟨dst, .load t (.tmp x), ty, pos, af, some g⟩ :: rest) ⟨fr, h⟩ K = (gok fr ops (some g) ∧ (gcond fr ops (some g) = true → pureOk P ⟨fr, h⟩ (.load t (.tmp x))) ∧ evOps P mu ops rest ⟨putO fr dst (.when (gcond fr ops (some g)) (pureD P ⟨fr, h⟩ (.load t (.tmp x)))), h⟩ K) := evg_pure (by intro f args ts e; cases e)
theorem evq_load (t : TypeId) (x : Tmp) : evQs P ops (⟨dst, .load t (.tmp x), ty, pos, af, none⟩ :: rest) ⟨fr, h⟩ K = (pureOk P ⟨fr, h⟩ (.load t (.tmp x)) ∧ evQs P ops rest ⟨putO fr dst (pureD P ⟨fr, h⟩ (.load t (.tmp x))), h⟩ K) := evq_pure (by intro f args ts e; cases e)
theorem evqg_load (t : TypeId) (x : Tmp) : evQs P ops (⟨dst, .load t (.tmp x), ty, pos, af, some g⟩ :: rest) ⟨fr, h⟩ K = (gok fr ops (some g) ∧ (gcond fr ops (some g) = true → pureOk P ⟨fr, h⟩ (.load t (.tmp x))) ∧ evQs P ops rest ⟨putO fr dst (.when (gcond fr ops (some g)) (pureD P ⟨fr, h⟩ (.load t (.tmp x)))), h⟩ K) := evqg_pure (by intro f args ts e; cases e)
theorem evo_fieldAddr (s : TypeId) (x : Operand) (f : Nat) : evOps P mu ops (⟨dst, .fieldAddr s x f, ty, pos, af, none⟩ :: rest) ⟨fr, h⟩ K = (pureOk P ⟨fr, h⟩ (.fieldAddr s x f) ∧ evOps P mu ops rest ⟨putO fr dst (pureD P ⟨fr, h⟩ (.fieldAddr s x f)), h⟩ K) := evo_pure rfl (by intro f args ts e; cases e)
theorem evg_fieldAddr (s : TypeId) (x : Operand) (f : Nat) : evOps P mu ops (⟨dst, .fieldAddr s x f, ty, pos, af, some g⟩ :: rest) ⟨fr, h⟩ K = (gok fr ops (some g) ∧ (gcond fr ops (some g) = true → pureOk P ⟨fr, h⟩ (.fieldAddr s x f)) ∧ evOps P mu ops rest ⟨putO fr dst (.when (gcond fr ops (some g)) (pureD P ⟨fr, h⟩ (.fieldAddr s x f))), h⟩ K) := evg_pure (by intro f args ts e; cases e)
theorem evq_fieldAddr (s : TypeId) (x : Operand) (f : Nat) : evQs P ops (⟨dst, .fieldAddr s x f, ty, pos, af, none⟩ :: rest) ⟨fr, h⟩ K = (pureOk P ⟨fr, h⟩ (.fieldAddr s x f) ∧ evQs P ops rest ⟨putO fr dst (pureD P ⟨fr, h⟩ (.fieldAddr s x f)), h⟩ K) := evq_pure (by intro f args ts e; cases e)
theorem evqg_fieldAddr (s : TypeId) (x : Operand) (f : Nat) : evQs P ops (⟨dst, .fieldAddr s x f, ty, pos, af, some g⟩ :: rest) ⟨fr, h⟩ K = (gok fr ops (some g) ∧ (gcond fr ops (some g) = true → pureOk P ⟨fr, h⟩ (.fieldAddr s x f)) ∧ evQs P ops rest ⟨putO fr dst (.when (gcond fr ops (some g)) (pureD P ⟨fr, h⟩ (.fieldAddr s x f))), h⟩ K) := evqg_pure (by intro f args ts e; cases e)
theorem evo_indexAddr (t : TypeId) (x : Tmp) (i : Operand) : evOps P mu ops (⟨dst, .indexAddr t (.tmp x) i, ty, pos, af, none⟩ :: rest) ⟨fr, h⟩ K = (pureOk P ⟨fr, h⟩ (.indexAddr t (.tmp x) i) ∧ evOps P mu ops rest ⟨putO fr dst (pureD P ⟨fr, h⟩ (.indexAddr t (.tmp x) i)), h⟩ K) := evo_pure rfl (by intro f args ts e; cases e)
theorem evg_indexAddr (t : TypeId) (x : Tmp) (i : Operand) : evOps P mu ops (⟨dst, .indexAddr t (.tmp x) i, ty, pos, af, some g⟩ :: rest) ⟨fr, h⟩ K = (gok fr ops (some g) ∧ (gcond fr ops (some g) = true → pureOk P ⟨fr, h⟩ (.indexAddr t (.tmp x) i)) ∧ evOps P mu ops rest ⟨putO fr dst (.when (gcond fr ops (some g)) (pureD P ⟨fr, h⟩ (.indexAddr t (.tmp x) i))), h⟩ K) := evg_pure (by intro f args ts e; cases e)
theorem evq_indexAddr (t : TypeId) (x : Tmp) (i : Operand) : evQs P ops (⟨dst, .indexAddr t (.tmp x) i, ty, pos, af, none⟩ :: rest) ⟨fr, h⟩ K = (pureOk P ⟨fr, h⟩ (.indexAddr t (.tmp x) i) ∧ evQs P ops rest ⟨putO fr dst (pureD P ⟨fr, h⟩ (.indexAddr t (.tmp x) i)), h⟩ K) := evq_pure (by intro f args ts e; cases e)
theorem evqg_indexAddr (t : TypeId) (x : Tmp) (i : Operand) : evQs P ops (⟨dst, .indexAddr t (.tmp x) i, ty, pos, af, some g⟩ :: rest) ⟨fr, h⟩ K = (gok fr ops (some g) ∧ (gcond fr ops (some g) = true → pureOk P ⟨fr, h⟩ (.indexAddr t (.tmp x) i)) ∧ evQs P ops rest ⟨putO fr dst (.when (gcond fr ops (some g)) (pureD P ⟨fr, h⟩ (.indexAddr t (.tmp x) i))), h⟩ K) := evqg_pure (by intro f args ts e; cases e)
theorem evo_index (t : TypeId) (x i : Operand) : evOps P mu ops (⟨dst, .index t x i, ty, pos, af, none⟩ :: rest) ⟨fr, h⟩ K = (pureOk P ⟨fr, h⟩ (.index t x i) ∧ evOps P mu ops rest ⟨putO fr dst (pureD P ⟨fr, h⟩ (.index t x i)), h⟩ K) := evo_pure rfl (by intro f args ts e; cases e)
theorem evg_index (t : TypeId) (x i : Operand) : evOps P mu ops (⟨dst, .index t x i, ty, pos, af, some g⟩ :: rest) ⟨fr, h⟩ K = (gok fr ops (some g) ∧ (gcond fr ops (some g) = true → pureOk P ⟨fr, h⟩ (.index t x i)) ∧ evOps P mu ops rest ⟨putO fr dst (.when (gcond fr ops (some g)) (pureD P ⟨fr, h⟩ (.index t x i))), h⟩ K) := evg_pure (by intro f args ts e; cases e)
theorem evq_index (t : TypeId) (x i : Operand) : evQs P ops (⟨dst, .index t x i, ty, pos, af, none⟩ :: rest) ⟨fr, h⟩ K = (pureOk P ⟨fr, h⟩ (.index t x i) ∧ evQs P ops rest ⟨putO fr dst (pureD P ⟨fr, h⟩ (.index t x i)), h⟩ K) := evq_pure (by intro f args ts e; cases e)
theorem evqg_index (t : TypeId) (x i : Operand) : evQs P ops (⟨dst, .index t x i, ty, pos, af, some g⟩ :: rest) ⟨fr, h⟩ K = (gok fr ops (some g) ∧ (gcond fr ops (some g) = true → pureOk P ⟨fr, h⟩ (.index t x i)) ∧ evQs P ops rest ⟨putO fr dst (.when (gcond fr ops (some g)) (pureD P ⟨fr, h⟩ (.index t x i))), h⟩ K) := evqg_pure (by intro f args ts e; cases e)
theorem evo_binOp_t (b : BinOp) (t : TypeId) (x : Operand) (y : Tmp) (u : TypeId) : evOps P mu ops (⟨dst, .binOp b t x (.tmp y) u, ty, pos, af, none⟩ :: rest) ⟨fr, h⟩ K = (pureOk P ⟨fr, h⟩ (.binOp b t x (.tmp y) u) ∧ evOps P mu ops rest ⟨putO fr dst (pureD P ⟨fr, h⟩ (.binOp b t x (.tmp y) u)), h⟩ K) := evo_pure rfl (by intro f args ts e; cases e)
theorem evo_binOp_i (b : BinOp) (t : TypeId) (x : Operand) (k : IntKind) (y : Int) (u : TypeId) : evOps P mu ops (⟨dst, .binOp b t x (.const (.int k y)) u, ty, pos, af, none⟩ :: rest) ⟨fr, h⟩ K = (pureOk P ⟨fr, h⟩ (.binOp b t x (.const (.int k y)) u) ∧ evOps P mu ops rest ⟨putO fr dst (pureD P ⟨fr, h⟩ (.binOp b t x (.const (.int k y)) u)), h⟩ K) := evo_pure rfl (by intro f args ts e; cases e)
theorem evo_binOp_b (b : BinOp) (t : TypeId) (x : Operand) (y : Bool) (u : TypeId) : evOps P mu ops (⟨dst, .binOp b t x (.const (.bool y)) u, ty, pos, af, none⟩ :: rest) ⟨fr, h⟩ K = (pureOk P ⟨fr, h⟩ (.binOp b t x (.const (.bool y)) u) ∧ evOps P mu ops rest ⟨putO fr dst (pureD P ⟨fr, h⟩ (.binOp b t x (.const (.bool y)) u)), h⟩ K) := evo_pure rfl (by intro f args ts e; cases e)
theorem evo_binOp_s (b : BinOp) (t : TypeId) (x : Operand) (y : ByteArray) (u : TypeId) : evOps P mu ops (⟨dst, .binOp b t x (.const (.string y)) u, ty, pos, af, none⟩ :: rest) ⟨fr, h⟩ K = (pureOk P ⟨fr, h⟩ (.binOp b t x (.const (.string y)) u) ∧ evOps P mu ops rest ⟨putO fr dst (pureD P ⟨fr, h⟩ (.binOp b t x (.const (.string y)) u)), h⟩ K) := evo_pure rfl (by intro f args ts e; cases e)
theorem evo_binOp_p (b : BinOp) (t : TypeId) (x : Operand) (y : Option Addr) (u : TypeId) : evOps P mu ops (⟨dst, .binOp b t x (.const (.pointer y)) u, ty, pos, af, none⟩ :: rest) ⟨fr, h⟩ K = (pureOk P ⟨fr, h⟩ (.binOp b t x (.const (.pointer y)) u) ∧ evOps P mu ops rest ⟨putO fr dst (pureD P ⟨fr, h⟩ (.binOp b t x (.const (.pointer y)) u)), h⟩ K) := evo_pure rfl (by intro f args ts e; cases e)
theorem evo_binOp_n (b : BinOp) (t : TypeId) (x : Operand) (u : TypeId) : evOps P mu ops (⟨dst, .binOp b t x (.const .nilIface) u, ty, pos, af, none⟩ :: rest) ⟨fr, h⟩ K = (pureOk P ⟨fr, h⟩ (.binOp b t x (.const .nilIface) u) ∧ evOps P mu ops rest ⟨putO fr dst (pureD P ⟨fr, h⟩ (.binOp b t x (.const .nilIface) u)), h⟩ K) := evo_pure rfl (by intro f args ts e; cases e)
theorem evg_binOp (b : BinOp) (t : TypeId) (x y : Operand) (u : TypeId) : evOps P mu ops (⟨dst, .binOp b t x y u, ty, pos, af, some g⟩ :: rest) ⟨fr, h⟩ K = (gok fr ops (some g) ∧ (gcond fr ops (some g) = true → pureOk P ⟨fr, h⟩ (.binOp b t x y u)) ∧ evOps P mu ops rest ⟨putO fr dst (.when (gcond fr ops (some g)) (pureD P ⟨fr, h⟩ (.binOp b t x y u))), h⟩ K) := evg_pure (by intro f args ts e; cases e)
theorem evq_binOp (b : BinOp) (t : TypeId) (x y : Operand) (u : TypeId) : evQs P ops (⟨dst, .binOp b t x y u, ty, pos, af, none⟩ :: rest) ⟨fr, h⟩ K = (pureOk P ⟨fr, h⟩ (.binOp b t x y u) ∧ evQs P ops rest ⟨putO fr dst (pureD P ⟨fr, h⟩ (.binOp b t x y u)), h⟩ K) := evq_pure (by intro f args ts e; cases e)
theorem evqg_binOp (b : BinOp) (t : TypeId) (x y : Operand) (u : TypeId) : evQs P ops (⟨dst, .binOp b t x y u, ty, pos, af, some g⟩ :: rest) ⟨fr, h⟩ K = (gok fr ops (some g) ∧ (gcond fr ops (some g) = true → pureOk P ⟨fr, h⟩ (.binOp b t x y u)) ∧ evQs P ops rest ⟨putO fr dst (.when (gcond fr ops (some g)) (pureD P ⟨fr, h⟩ (.binOp b t x y u))), h⟩ K) := evqg_pure (by intro f args ts e; cases e)
theorem evo_unOp (b : UnOp) (t : TypeId) (x : Operand) : evOps P mu ops (⟨dst, .unOp b t x, ty, pos, af, none⟩ :: rest) ⟨fr, h⟩ K = (pureOk P ⟨fr, h⟩ (.unOp b t x) ∧ evOps P mu ops rest ⟨putO fr dst (pureD P ⟨fr, h⟩ (.unOp b t x)), h⟩ K) := evo_pure rfl (by intro f args ts e; cases e)
theorem evg_unOp (b : UnOp) (t : TypeId) (x : Operand) : evOps P mu ops (⟨dst, .unOp b t x, ty, pos, af, some g⟩ :: rest) ⟨fr, h⟩ K = (gok fr ops (some g) ∧ (gcond fr ops (some g) = true → pureOk P ⟨fr, h⟩ (.unOp b t x)) ∧ evOps P mu ops rest ⟨putO fr dst (.when (gcond fr ops (some g)) (pureD P ⟨fr, h⟩ (.unOp b t x))), h⟩ K) := evg_pure (by intro f args ts e; cases e)
theorem evq_unOp (b : UnOp) (t : TypeId) (x : Operand) : evQs P ops (⟨dst, .unOp b t x, ty, pos, af, none⟩ :: rest) ⟨fr, h⟩ K = (pureOk P ⟨fr, h⟩ (.unOp b t x) ∧ evQs P ops rest ⟨putO fr dst (pureD P ⟨fr, h⟩ (.unOp b t x)), h⟩ K) := evq_pure (by intro f args ts e; cases e)
theorem evqg_unOp (b : UnOp) (t : TypeId) (x : Operand) : evQs P ops (⟨dst, .unOp b t x, ty, pos, af, some g⟩ :: rest) ⟨fr, h⟩ K = (gok fr ops (some g) ∧ (gcond fr ops (some g) = true → pureOk P ⟨fr, h⟩ (.unOp b t x)) ∧ evQs P ops rest ⟨putO fr dst (.when (gcond fr ops (some g)) (pureD P ⟨fr, h⟩ (.unOp b t x))), h⟩ K) := evqg_pure (by intro f args ts e; cases e)
theorem evo_extract (x : Operand) (i : Nat) : evOps P mu ops (⟨dst, .extract x i, ty, pos, af, none⟩ :: rest) ⟨fr, h⟩ K = (pureOk P ⟨fr, h⟩ (.extract x i) ∧ evOps P mu ops rest ⟨putO fr dst (pureD P ⟨fr, h⟩ (.extract x i)), h⟩ K) := evo_pure rfl (by intro f args ts e; cases e)
theorem evg_extract (x : Operand) (i : Nat) : evOps P mu ops (⟨dst, .extract x i, ty, pos, af, some g⟩ :: rest) ⟨fr, h⟩ K = (gok fr ops (some g) ∧ (gcond fr ops (some g) = true → pureOk P ⟨fr, h⟩ (.extract x i)) ∧ evOps P mu ops rest ⟨putO fr dst (.when (gcond fr ops (some g)) (pureD P ⟨fr, h⟩ (.extract x i))), h⟩ K) := evg_pure (by intro f args ts e; cases e)
theorem evq_extract (x : Operand) (i : Nat) : evQs P ops (⟨dst, .extract x i, ty, pos, af, none⟩ :: rest) ⟨fr, h⟩ K = (pureOk P ⟨fr, h⟩ (.extract x i) ∧ evQs P ops rest ⟨putO fr dst (pureD P ⟨fr, h⟩ (.extract x i)), h⟩ K) := evq_pure (by intro f args ts e; cases e)
theorem evqg_extract (x : Operand) (i : Nat) : evQs P ops (⟨dst, .extract x i, ty, pos, af, some g⟩ :: rest) ⟨fr, h⟩ K = (gok fr ops (some g) ∧ (gcond fr ops (some g) = true → pureOk P ⟨fr, h⟩ (.extract x i)) ∧ evQs P ops rest ⟨putO fr dst (.when (gcond fr ops (some g)) (pureD P ⟨fr, h⟩ (.extract x i))), h⟩ K) := evqg_pure (by intro f args ts e; cases e)
theorem evo_nilCheck (x : Operand) : evOps P mu ops (⟨dst, .nilCheck x, ty, pos, af, none⟩ :: rest) ⟨fr, h⟩ K = (pureOk P ⟨fr, h⟩ (.nilCheck x) ∧ evOps P mu ops rest ⟨putO fr dst (pureD P ⟨fr, h⟩ (.nilCheck x)), h⟩ K) := evo_pure rfl (by intro f args ts e; cases e)
theorem evg_nilCheck (x : Operand) : evOps P mu ops (⟨dst, .nilCheck x, ty, pos, af, some g⟩ :: rest) ⟨fr, h⟩ K = (gok fr ops (some g) ∧ (gcond fr ops (some g) = true → pureOk P ⟨fr, h⟩ (.nilCheck x)) ∧ evOps P mu ops rest ⟨putO fr dst (.when (gcond fr ops (some g)) (pureD P ⟨fr, h⟩ (.nilCheck x))), h⟩ K) := evg_pure (by intro f args ts e; cases e)
theorem evq_nilCheck (x : Operand) : evQs P ops (⟨dst, .nilCheck x, ty, pos, af, none⟩ :: rest) ⟨fr, h⟩ K = (pureOk P ⟨fr, h⟩ (.nilCheck x) ∧ evQs P ops rest ⟨putO fr dst (pureD P ⟨fr, h⟩ (.nilCheck x)), h⟩ K) := evq_pure (by intro f args ts e; cases e)
theorem evqg_nilCheck (x : Operand) : evQs P ops (⟨dst, .nilCheck x, ty, pos, af, some g⟩ :: rest) ⟨fr, h⟩ K = (gok fr ops (some g) ∧ (gcond fr ops (some g) = true → pureOk P ⟨fr, h⟩ (.nilCheck x)) ∧ evQs P ops rest ⟨putO fr dst (.when (gcond fr ops (some g)) (pureD P ⟨fr, h⟩ (.nilCheck x))), h⟩ K) := evqg_pure (by intro f args ts e; cases e)
theorem evo_makeFunc (f : Fn) (a c : Array Operand) : evOps P mu ops (⟨dst, .makeFunc f a c, ty, pos, af, none⟩ :: rest) ⟨fr, h⟩ K = (pureOk P ⟨fr, h⟩ (.makeFunc f a c) ∧ evOps P mu ops rest ⟨putO fr dst (pureD P ⟨fr, h⟩ (.makeFunc f a c)), h⟩ K) := evo_pure rfl (by intro f args ts e; cases e)
theorem evg_makeFunc (f : Fn) (a c : Array Operand) : evOps P mu ops (⟨dst, .makeFunc f a c, ty, pos, af, some g⟩ :: rest) ⟨fr, h⟩ K = (gok fr ops (some g) ∧ (gcond fr ops (some g) = true → pureOk P ⟨fr, h⟩ (.makeFunc f a c)) ∧ evOps P mu ops rest ⟨putO fr dst (.when (gcond fr ops (some g)) (pureD P ⟨fr, h⟩ (.makeFunc f a c))), h⟩ K) := evg_pure (by intro f args ts e; cases e)
theorem evq_makeFunc (f : Fn) (a c : Array Operand) : evQs P ops (⟨dst, .makeFunc f a c, ty, pos, af, none⟩ :: rest) ⟨fr, h⟩ K = (pureOk P ⟨fr, h⟩ (.makeFunc f a c) ∧ evQs P ops rest ⟨putO fr dst (pureD P ⟨fr, h⟩ (.makeFunc f a c)), h⟩ K) := evq_pure (by intro f args ts e; cases e)
theorem evqg_makeFunc (f : Fn) (a c : Array Operand) : evQs P ops (⟨dst, .makeFunc f a c, ty, pos, af, some g⟩ :: rest) ⟨fr, h⟩ K = (gok fr ops (some g) ∧ (gcond fr ops (some g) = true → pureOk P ⟨fr, h⟩ (.makeFunc f a c)) ∧ evQs P ops rest ⟨putO fr dst (.when (gcond fr ops (some g)) (pureD P ⟨fr, h⟩ (.makeFunc f a c))), h⟩ K) := evqg_pure (by intro f args ts e; cases e)
theorem evo_convert (s t : TypeId) (x : Operand) : evOps P mu ops (⟨dst, .convert s t x, ty, pos, af, none⟩ :: rest) ⟨fr, h⟩ K =
    (if muHas mu dst = true then ok1 fr x ∧ bytesOk P s t (vl fr x) ∧ (if muRow mu dst = true then evOps P mu ops rest ⟨putO fr dst (.vec h.length false 1 0 (bytesD (vl fr x)).length (bytesD (vl fr x)).length), h ++ [.row (bytesD (vl fr x))]⟩ K
        else evOps P mu ops rest ⟨putO fr dst (.slice (bytesD (vl fr x)) (.buf h.length 1)), h ++ [.buf (bytesD (vl fr x)).length]⟩ K)
     else if isSliceKB (ti P t).kind = true then ok1 fr x ∧ bytesOk P s t (vl fr x) ∧ evOps P mu ops rest ⟨putO fr dst (.slice (bytesD (vl fr x)) .no), h⟩ K
     else pureOk P ⟨fr, h⟩ (.convert s t x) ∧ evOps P mu ops rest ⟨putO fr dst (pureD P ⟨fr, h⟩ (.convert s t x)), h⟩ K) := by
  apply propext
  show (if (true && muHas mu dst) = true then _ else quietOp P ops ⟨dst, .convert s t x, ty, pos, af, none⟩ ⟨fr, h⟩ fun d => evOps P mu ops rest ⟨putO fr dst d, h⟩ K) ↔ _
  rw [Bool.true_and]
  cases hm : muHas mu dst with
  | true => exact Iff.rfl
  | false =>
    simp only [Bool.false_eq_true, if_false]
    cases hk : isSliceKB (ti P t).kind with
    | true =>
      unfold quietOp
      simp only [isG, hk, if_true]
      constructor
      · rintro ⟨_, _, d, ⟨h1, h2, rfl⟩, h3⟩; exact ⟨h1, h2, h3⟩
      · rintro ⟨h1, h2, h3⟩; exact ⟨trivial, trivial, _, ⟨h1, h2, rfl⟩, h3⟩
    | false =>
      simp only [Bool.false_eq_true, if_false, quiet_pure (o := ⟨dst, .convert s t x, ty, pos, af, none⟩) (by intro f args ts e; cases e) hk, quietPure, gok, gcond, wrapG, true_and, true_implies]
theorem evg_convert (s t : TypeId) (x : Operand) : evOps P mu ops (⟨dst, .convert s t x, ty, pos, af, some g⟩ :: rest) ⟨fr, h⟩ K =
    (if isSliceKB (ti P t).kind = true then False else gok fr ops (some g) ∧ (gcond fr ops (some g) = true → pureOk P ⟨fr, h⟩ (.convert s t x)) ∧ evOps P mu ops rest ⟨putO fr dst (.when (gcond fr ops (some g)) (pureD P ⟨fr, h⟩ (.convert s t x))), h⟩ K) := by
  cases hk : isSliceKB (ti P t).kind with
  | true =>
    apply propext
    simp only [if_true, iff_false]
    simp only [evOps, evOp, isCallV, Bool.and_false, Bool.false_eq_true, if_false]
    unfold quietOp
    simp only [isG, hk, if_true]
    rintro ⟨_, h, _⟩
    cases h
  | false =>
    simp only [Bool.false_eq_true, if_false]
    exact evg_pure (by intro f args ts e; cases e) hk
theorem evq_convert (s t : TypeId) (x : Operand) : evQs P ops (⟨dst, .convert s t x, ty, pos, af, none⟩ :: rest) ⟨fr, h⟩ K =
    (if isSliceKB (ti P t).kind = true then ok1 fr x ∧ bytesOk P s t (vl fr x) ∧ evQs P ops rest ⟨putO fr dst (.slice (bytesD (vl fr x)) .no), h⟩ K
     else pureOk P ⟨fr, h⟩ (.convert s t x) ∧ evQs P ops rest ⟨putO fr dst (pureD P ⟨fr, h⟩ (.convert s t x)), h⟩ K) := by
  cases hk : isSliceKB (ti P t).kind with
  | true =>
    apply propext
    simp only [if_true, evQs]
    unfold quietOp
    simp only [isG, hk, if_true]
    constructor
    · rintro ⟨_, _, d, ⟨h1, h2, rfl⟩, h3⟩; exact ⟨h1, h2, h3⟩
    · rintro ⟨h1, h2, h3⟩; exact ⟨trivial, trivial, _, ⟨h1, h2, rfl⟩, h3⟩
  | false =>
    simp only [Bool.false_eq_true, if_false]
    exact evq_pure (by intro f args ts e; cases e) hk
theorem evqg_convert (s t : TypeId) (x : Operand) : evQs P ops (⟨dst, .convert s t x, ty, pos, af, some g⟩ :: rest) ⟨fr, h⟩ K =
    (if isSliceKB (ti P t).kind = true then False else gok fr ops (some g) ∧ (gcond fr ops (some g) = true → pureOk P ⟨fr, h⟩ (.convert s t x)) ∧ evQs P ops rest ⟨putO fr dst (.when (gcond fr ops (some g)) (pureD P ⟨fr, h⟩ (.convert s t x))), h⟩ K) := by
  cases hk : isSliceKB (ti P t).kind with
  | true =>
    apply propext
    simp only [if_true, iff_false, evQs]
    unfold quietOp
    simp only [isG, hk, if_true]
    rintro ⟨_, h, _⟩
    cases h
  | false =>
    simp only [Bool.false_eq_true, if_false]
    exact evqg_pure (by intro f args ts e; cases e) hk
/-- A package's variable is read. -/
def LoadG (P : Program) (h : Hp) (g : Nat) (t : TypeId) (K : D → Prop) : Prop := ∃ cs, GVar g cs ∧ loadOk P t h (.vptr cs) ∧ K (loadD P t h (.vptr cs))
theorem loadG {g : Nat} {t : TypeId} {K : D → Prop} (cs : List D) (hc : GVar g cs) (h1 : loadOk P t h (.vptr cs) ∧ K (loadD P t h (.vptr cs))) : LoadG P h g t K := ⟨cs, hc, h1⟩
def IdxG (P : Program) (g : Nat) (t : TypeId) (i : D) (K : D → Prop) : Prop := ∃ cs, GVar g cs ∧ idxOk P t (.vptr cs) i ∧ K (idxD P t (.vptr cs) i)
theorem idxG {g : Nat} {t : TypeId} {i : D} {K : D → Prop} (cs : List D) (hc : GVar g cs) (h1 : idxOk P t (.vptr cs) i ∧ K (idxD P t (.vptr cs) i)) : IdxG P g t i K := ⟨cs, hc, h1⟩
theorem evo_loadg (t : TypeId) (x : Nat) : evOps P mu ops (⟨dst, .load t (.global x), ty, pos, af, none⟩ :: rest) ⟨fr, h⟩ K = LoadG P h x t fun d => evOps P mu ops rest ⟨putO fr dst d, h⟩ K := by
  apply propext
  constructor
  · rintro ⟨_, _, d, ⟨cs, h1, h2, rfl⟩, h3⟩; exact ⟨cs, h1, h2, h3⟩
  · rintro ⟨cs, h1, h2, h3⟩; exact ⟨trivial, rfl, _, ⟨cs, h1, h2, rfl⟩, h3⟩
theorem evq_loadg (t : TypeId) (x : Nat) : evQs P ops (⟨dst, .load t (.global x), ty, pos, af, none⟩ :: rest) ⟨fr, h⟩ K = LoadG P h x t fun d => evQs P ops rest ⟨putO fr dst d, h⟩ K := by
  apply propext
  constructor
  · rintro ⟨_, _, d, ⟨cs, h1, h2, rfl⟩, h3⟩; exact ⟨cs, h1, h2, h3⟩
  · rintro ⟨cs, h1, h2, h3⟩; exact ⟨trivial, rfl, _, ⟨cs, h1, h2, rfl⟩, h3⟩
theorem evo_indexAddrg (t : TypeId) (x : Nat) (i : Operand) : evOps P mu ops (⟨dst, .indexAddr t (.global x) i, ty, pos, af, none⟩ :: rest) ⟨fr, h⟩ K = (ok1 fr i ∧ IdxG P x t (vl fr i) fun d => evOps P mu ops rest ⟨putO fr dst d, h⟩ K) := by
  apply propext
  constructor
  · rintro ⟨_, _, d, ⟨cs, h1, h0, h2, rfl⟩, h3⟩; exact ⟨h0, cs, h1, h2, h3⟩
  · rintro ⟨h0, cs, h1, h2, h3⟩; exact ⟨trivial, rfl, _, ⟨cs, h1, h0, h2, rfl⟩, h3⟩
theorem evq_indexAddrg (t : TypeId) (x : Nat) (i : Operand) : evQs P ops (⟨dst, .indexAddr t (.global x) i, ty, pos, af, none⟩ :: rest) ⟨fr, h⟩ K = (ok1 fr i ∧ IdxG P x t (vl fr i) fun d => evQs P ops rest ⟨putO fr dst d, h⟩ K) := by
  apply propext
  constructor
  · rintro ⟨_, _, d, ⟨cs, h1, h0, h2, rfl⟩, h3⟩; exact ⟨h0, cs, h1, h2, h3⟩
  · rintro ⟨h0, cs, h1, h2, h3⟩; exact ⟨trivial, rfl, _, ⟨cs, h1, h0, h2, rfl⟩, h3⟩
theorem evo_slice (t : TypeId) (x : Operand) (l h' m : Option Operand) : evOps P mu ops (⟨dst, .slice t x l h' m, ty, pos, af, none⟩ :: rest) ⟨fr, h⟩ K =
    (if isArrKB (ti P t).kind = true then ok1 fr x ∧ okO fr l ∧ okO fr h' ∧ okO fr m ∧ arrOk P t h (vl fr x) (l.map (vl fr)) (h'.map (vl fr)) (m.map (vl fr)) ∧ evOps P mu ops rest ⟨putO fr dst (arrD P t (vl fr x) (l.map (vl fr)) (h'.map (vl fr))), h⟩ K else pureOk P ⟨fr, h⟩ (.slice t x l h' m) ∧ evOps P mu ops rest ⟨putO fr dst (pureD P ⟨fr, h⟩ (.slice t x l h' m)), h⟩ K) := by
  cases hk : isArrKB (ti P t).kind with
  | true =>
    apply propext
    simp only [if_true]
    show quietOp P ops ⟨dst, .slice t x l h' m, ty, pos, af, none⟩ ⟨fr, h⟩ (fun d => evOps P mu ops rest ⟨putO fr dst d, h⟩ K) ↔ _
    unfold quietOp
    simp only [isG, hk, if_true]
    constructor
    · rintro ⟨_, _, d, ⟨h1, h2, h3, h4, h5, rfl⟩, h6⟩; exact ⟨h1, h2, h3, h4, h5, h6⟩
    · rintro ⟨h1, h2, h3, h4, h5, h6⟩; exact ⟨trivial, trivial, _, ⟨h1, h2, h3, h4, h5, rfl⟩, h6⟩
  | false =>
    simp only [Bool.false_eq_true, if_false]
    exact evo_pure rfl (by intro f args ts e; cases e) hk
theorem evg_slice (t : TypeId) (x : Operand) (l h' m : Option Operand) : evOps P mu ops (⟨dst, .slice t x l h' m, ty, pos, af, some g⟩ :: rest) ⟨fr, h⟩ K =
    (if isArrKB (ti P t).kind = true then False else gok fr ops (some g) ∧ (gcond fr ops (some g) = true → pureOk P ⟨fr, h⟩ (.slice t x l h' m)) ∧ evOps P mu ops rest ⟨putO fr dst (.when (gcond fr ops (some g)) (pureD P ⟨fr, h⟩ (.slice t x l h' m))), h⟩ K) := by
  cases hk : isArrKB (ti P t).kind with
  | true =>
    apply propext
    simp only [if_true, iff_false]
    simp only [evOps, evOp, isCallV, Bool.and_false, Bool.false_eq_true, if_false]
    unfold quietOp
    simp only [isG, hk, if_true]
    rintro ⟨_, h, _⟩
    cases h
  | false =>
    simp only [Bool.false_eq_true, if_false]
    exact evg_pure (by intro f args ts e; cases e) hk
theorem evq_slice (t : TypeId) (x : Operand) (l h' m : Option Operand) : evQs P ops (⟨dst, .slice t x l h' m, ty, pos, af, none⟩ :: rest) ⟨fr, h⟩ K =
    (if isArrKB (ti P t).kind = true then ok1 fr x ∧ okO fr l ∧ okO fr h' ∧ okO fr m ∧ arrOk P t h (vl fr x) (l.map (vl fr)) (h'.map (vl fr)) (m.map (vl fr)) ∧ evQs P ops rest ⟨putO fr dst (arrD P t (vl fr x) (l.map (vl fr)) (h'.map (vl fr))), h⟩ K else pureOk P ⟨fr, h⟩ (.slice t x l h' m) ∧ evQs P ops rest ⟨putO fr dst (pureD P ⟨fr, h⟩ (.slice t x l h' m)), h⟩ K) := by
  cases hk : isArrKB (ti P t).kind with
  | true =>
    apply propext
    simp only [if_true]
    show quietOp P ops ⟨dst, .slice t x l h' m, ty, pos, af, none⟩ ⟨fr, h⟩ (fun d => evQs P ops rest ⟨putO fr dst d, h⟩ K) ↔ _
    unfold quietOp
    simp only [isG, hk, if_true]
    constructor
    · rintro ⟨_, _, d, ⟨h1, h2, h3, h4, h5, rfl⟩, h6⟩; exact ⟨h1, h2, h3, h4, h5, h6⟩
    · rintro ⟨h1, h2, h3, h4, h5, h6⟩; exact ⟨trivial, trivial, _, ⟨h1, h2, h3, h4, h5, rfl⟩, h6⟩
  | false =>
    simp only [Bool.false_eq_true, if_false]
    exact evq_pure (by intro f args ts e; cases e) hk
theorem evqg_slice (t : TypeId) (x : Operand) (l h' m : Option Operand) : evQs P ops (⟨dst, .slice t x l h' m, ty, pos, af, some g⟩ :: rest) ⟨fr, h⟩ K =
    (if isArrKB (ti P t).kind = true then False else gok fr ops (some g) ∧ (gcond fr ops (some g) = true → pureOk P ⟨fr, h⟩ (.slice t x l h' m)) ∧ evQs P ops rest ⟨putO fr dst (.when (gcond fr ops (some g)) (pureD P ⟨fr, h⟩ (.slice t x l h' m))), h⟩ K) := by
  cases hk : isArrKB (ti P t).kind with
  | true =>
    apply propext
    simp only [if_true, iff_false, evQs]
    unfold quietOp
    simp only [isG, hk, if_true]
    rintro ⟨_, h, _⟩
    cases h
  | false =>
    simp only [Bool.false_eq_true, if_false]
    exact evqg_pure (by intro f args ts e; cases e) hk
theorem evo_build (t : TypeId) (p : Array (Nat × Operand)) : evOps P mu ops (⟨dst, .build t p, ty, pos, af, none⟩ :: rest) ⟨fr, h⟩ K =
    (if isArrKB (ti P t).kind = true then allOk1 fr (p.toList.map (·.2)) ∧ arrbOk P t (p.toList.map (·.1)) (p.toList.map fun q => vl fr q.2) ∧ evOps P mu ops rest ⟨putO fr dst (.agg (p.toList.map fun q => vl fr q.2)), h⟩ K else pureOk P ⟨fr, h⟩ (.build t p) ∧ evOps P mu ops rest ⟨putO fr dst (pureD P ⟨fr, h⟩ (.build t p)), h⟩ K) := by
  cases hk : isArrKB (ti P t).kind with
  | true =>
    apply propext
    simp only [if_true]
    show quietOp P ops ⟨dst, .build t p, ty, pos, af, none⟩ ⟨fr, h⟩ (fun d => evOps P mu ops rest ⟨putO fr dst d, h⟩ K) ↔ _
    unfold quietOp
    simp only [isG, hk, if_true]
    constructor
    · rintro ⟨_, _, d, ⟨h1, h2, rfl⟩, h6⟩; exact ⟨h1, h2, h6⟩
    · rintro ⟨h1, h2, h6⟩; exact ⟨trivial, trivial, _, ⟨h1, h2, rfl⟩, h6⟩
  | false =>
    simp only [Bool.false_eq_true, if_false]
    exact evo_pure rfl (by intro f args ts e; cases e) hk
theorem evg_build (t : TypeId) (p : Array (Nat × Operand)) : evOps P mu ops (⟨dst, .build t p, ty, pos, af, some g⟩ :: rest) ⟨fr, h⟩ K =
    (if isArrKB (ti P t).kind = true then False else gok fr ops (some g) ∧ (gcond fr ops (some g) = true → pureOk P ⟨fr, h⟩ (.build t p)) ∧ evOps P mu ops rest ⟨putO fr dst (.when (gcond fr ops (some g)) (pureD P ⟨fr, h⟩ (.build t p))), h⟩ K) := by
  cases hk : isArrKB (ti P t).kind with
  | true =>
    apply propext
    simp only [if_true, iff_false]
    simp only [evOps, evOp, isCallV, Bool.and_false, Bool.false_eq_true, if_false]
    unfold quietOp
    simp only [isG, hk, if_true]
    rintro ⟨_, h, _⟩
    cases h
  | false =>
    simp only [Bool.false_eq_true, if_false]
    exact evg_pure (by intro f args ts e; cases e) hk
theorem evq_build (t : TypeId) (p : Array (Nat × Operand)) : evQs P ops (⟨dst, .build t p, ty, pos, af, none⟩ :: rest) ⟨fr, h⟩ K =
    (if isArrKB (ti P t).kind = true then allOk1 fr (p.toList.map (·.2)) ∧ arrbOk P t (p.toList.map (·.1)) (p.toList.map fun q => vl fr q.2) ∧ evQs P ops rest ⟨putO fr dst (.agg (p.toList.map fun q => vl fr q.2)), h⟩ K else pureOk P ⟨fr, h⟩ (.build t p) ∧ evQs P ops rest ⟨putO fr dst (pureD P ⟨fr, h⟩ (.build t p)), h⟩ K) := by
  cases hk : isArrKB (ti P t).kind with
  | true =>
    apply propext
    simp only [if_true]
    show quietOp P ops ⟨dst, .build t p, ty, pos, af, none⟩ ⟨fr, h⟩ (fun d => evQs P ops rest ⟨putO fr dst d, h⟩ K) ↔ _
    unfold quietOp
    simp only [isG, hk, if_true]
    constructor
    · rintro ⟨_, _, d, ⟨h1, h2, rfl⟩, h6⟩; exact ⟨h1, h2, h6⟩
    · rintro ⟨h1, h2, h6⟩; exact ⟨trivial, trivial, _, ⟨h1, h2, rfl⟩, h6⟩
  | false =>
    simp only [Bool.false_eq_true, if_false]
    exact evq_pure (by intro f args ts e; cases e) hk
theorem evqg_build (t : TypeId) (p : Array (Nat × Operand)) : evQs P ops (⟨dst, .build t p, ty, pos, af, some g⟩ :: rest) ⟨fr, h⟩ K =
    (if isArrKB (ti P t).kind = true then False else gok fr ops (some g) ∧ (gcond fr ops (some g) = true → pureOk P ⟨fr, h⟩ (.build t p)) ∧ evQs P ops rest ⟨putO fr dst (.when (gcond fr ops (some g)) (pureD P ⟨fr, h⟩ (.build t p))), h⟩ K) := by
  cases hk : isArrKB (ti P t).kind with
  | true =>
    apply propext
    simp only [if_true, iff_false, evQs]
    unfold quietOp
    simp only [isG, hk, if_true]
    rintro ⟨_, h, _⟩
    cases h
  | false =>
    simp only [Bool.false_eq_true, if_false]
    exact evqg_pure (by intro f args ts e; cases e) hk
theorem evo_len (a : Array Operand) (ts : Array TypeId) : evOps P mu ops (⟨dst, .call ⟨.builtin .len, a, ts⟩, ty, pos, af, none⟩ :: rest) ⟨fr, h⟩ K = (pureOk P ⟨fr, h⟩ (.call ⟨.builtin .len, a, ts⟩) ∧ evOps P mu ops rest ⟨putO fr dst (pureD P ⟨fr, h⟩ (.call ⟨.builtin .len, a, ts⟩)), h⟩ K) := evo_pure rfl (by intro f args ts e; cases e)
theorem evo_cap (a : Array Operand) (ts : Array TypeId) : evOps P mu ops (⟨dst, .call ⟨.builtin .cap, a, ts⟩, ty, pos, af, none⟩ :: rest) ⟨fr, h⟩ K = (pureOk P ⟨fr, h⟩ (.call ⟨.builtin .cap, a, ts⟩) ∧ evOps P mu ops rest ⟨putO fr dst (pureD P ⟨fr, h⟩ (.call ⟨.builtin .cap, a, ts⟩)), h⟩ K) := evo_pure rfl (by intro f args ts e; cases e)
theorem evg_len (a : Array Operand) (ts : Array TypeId) : evOps P mu ops (⟨dst, .call ⟨.builtin .len, a, ts⟩, ty, pos, af, some g⟩ :: rest) ⟨fr, h⟩ K = (gok fr ops (some g) ∧ (gcond fr ops (some g) = true → pureOk P ⟨fr, h⟩ (.call ⟨.builtin .len, a, ts⟩)) ∧ evOps P mu ops rest ⟨putO fr dst (.when (gcond fr ops (some g)) (pureD P ⟨fr, h⟩ (.call ⟨.builtin .len, a, ts⟩))), h⟩ K) := evg_pure (by intro f args ts e; cases e)
theorem evg_cap (a : Array Operand) (ts : Array TypeId) : evOps P mu ops (⟨dst, .call ⟨.builtin .cap, a, ts⟩, ty, pos, af, some g⟩ :: rest) ⟨fr, h⟩ K = (gok fr ops (some g) ∧ (gcond fr ops (some g) = true → pureOk P ⟨fr, h⟩ (.call ⟨.builtin .cap, a, ts⟩)) ∧ evOps P mu ops rest ⟨putO fr dst (.when (gcond fr ops (some g)) (pureD P ⟨fr, h⟩ (.call ⟨.builtin .cap, a, ts⟩))), h⟩ K) := evg_pure (by intro f args ts e; cases e)
theorem evq_len (a : Array Operand) (ts : Array TypeId) : evQs P ops (⟨dst, .call ⟨.builtin .len, a, ts⟩, ty, pos, af, none⟩ :: rest) ⟨fr, h⟩ K = (pureOk P ⟨fr, h⟩ (.call ⟨.builtin .len, a, ts⟩) ∧ evQs P ops rest ⟨putO fr dst (pureD P ⟨fr, h⟩ (.call ⟨.builtin .len, a, ts⟩)), h⟩ K) := evq_pure (by intro f args ts e; cases e)
theorem evq_cap (a : Array Operand) (ts : Array TypeId) : evQs P ops (⟨dst, .call ⟨.builtin .cap, a, ts⟩, ty, pos, af, none⟩ :: rest) ⟨fr, h⟩ K = (pureOk P ⟨fr, h⟩ (.call ⟨.builtin .cap, a, ts⟩) ∧ evQs P ops rest ⟨putO fr dst (pureD P ⟨fr, h⟩ (.call ⟨.builtin .cap, a, ts⟩)), h⟩ K) := evq_pure (by intro f args ts e; cases e)
theorem evqg_len (a : Array Operand) (ts : Array TypeId) : evQs P ops (⟨dst, .call ⟨.builtin .len, a, ts⟩, ty, pos, af, some g⟩ :: rest) ⟨fr, h⟩ K = (gok fr ops (some g) ∧ (gcond fr ops (some g) = true → pureOk P ⟨fr, h⟩ (.call ⟨.builtin .len, a, ts⟩)) ∧ evQs P ops rest ⟨putO fr dst (.when (gcond fr ops (some g)) (pureD P ⟨fr, h⟩ (.call ⟨.builtin .len, a, ts⟩))), h⟩ K) := evqg_pure (by intro f args ts e; cases e)
theorem evqg_cap (a : Array Operand) (ts : Array TypeId) : evQs P ops (⟨dst, .call ⟨.builtin .cap, a, ts⟩, ty, pos, af, some g⟩ :: rest) ⟨fr, h⟩ K = (gok fr ops (some g) ∧ (gcond fr ops (some g) = true → pureOk P ⟨fr, h⟩ (.call ⟨.builtin .cap, a, ts⟩)) ∧ evQs P ops rest ⟨putO fr dst (.when (gcond fr ops (some g)) (pureD P ⟨fr, h⟩ (.call ⟨.builtin .cap, a, ts⟩))), h⟩ K) := evqg_pure (by intro f args ts e; cases e)
theorem evo_min (a : Array Operand) (ts : Array TypeId) : evOps P mu ops (⟨dst, .call ⟨.builtin .min, a, ts⟩, ty, pos, af, none⟩ :: rest) ⟨fr, h⟩ K = (pureOk P ⟨fr, h⟩ (.call ⟨.builtin .min, a, ts⟩) ∧ evOps P mu ops rest ⟨putO fr dst (pureD P ⟨fr, h⟩ (.call ⟨.builtin .min, a, ts⟩)), h⟩ K) := evo_pure rfl (by intro f args ts e; cases e)
theorem evg_min (a : Array Operand) (ts : Array TypeId) : evOps P mu ops (⟨dst, .call ⟨.builtin .min, a, ts⟩, ty, pos, af, some g⟩ :: rest) ⟨fr, h⟩ K = (gok fr ops (some g) ∧ (gcond fr ops (some g) = true → pureOk P ⟨fr, h⟩ (.call ⟨.builtin .min, a, ts⟩)) ∧ evOps P mu ops rest ⟨putO fr dst (.when (gcond fr ops (some g)) (pureD P ⟨fr, h⟩ (.call ⟨.builtin .min, a, ts⟩))), h⟩ K) := evg_pure (by intro f args ts e; cases e)
theorem evq_min (a : Array Operand) (ts : Array TypeId) : evQs P ops (⟨dst, .call ⟨.builtin .min, a, ts⟩, ty, pos, af, none⟩ :: rest) ⟨fr, h⟩ K = (pureOk P ⟨fr, h⟩ (.call ⟨.builtin .min, a, ts⟩) ∧ evQs P ops rest ⟨putO fr dst (pureD P ⟨fr, h⟩ (.call ⟨.builtin .min, a, ts⟩)), h⟩ K) := evq_pure (by intro f args ts e; cases e)
theorem evqg_min (a : Array Operand) (ts : Array TypeId) : evQs P ops (⟨dst, .call ⟨.builtin .min, a, ts⟩, ty, pos, af, some g⟩ :: rest) ⟨fr, h⟩ K = (gok fr ops (some g) ∧ (gcond fr ops (some g) = true → pureOk P ⟨fr, h⟩ (.call ⟨.builtin .min, a, ts⟩)) ∧ evQs P ops rest ⟨putO fr dst (.when (gcond fr ops (some g)) (pureD P ⟨fr, h⟩ (.call ⟨.builtin .min, a, ts⟩))), h⟩ K) := evqg_pure (by intro f args ts e; cases e)
theorem evo_max (a : Array Operand) (ts : Array TypeId) : evOps P mu ops (⟨dst, .call ⟨.builtin .max, a, ts⟩, ty, pos, af, none⟩ :: rest) ⟨fr, h⟩ K = (pureOk P ⟨fr, h⟩ (.call ⟨.builtin .max, a, ts⟩) ∧ evOps P mu ops rest ⟨putO fr dst (pureD P ⟨fr, h⟩ (.call ⟨.builtin .max, a, ts⟩)), h⟩ K) := evo_pure rfl (by intro f args ts e; cases e)
theorem evg_max (a : Array Operand) (ts : Array TypeId) : evOps P mu ops (⟨dst, .call ⟨.builtin .max, a, ts⟩, ty, pos, af, some g⟩ :: rest) ⟨fr, h⟩ K = (gok fr ops (some g) ∧ (gcond fr ops (some g) = true → pureOk P ⟨fr, h⟩ (.call ⟨.builtin .max, a, ts⟩)) ∧ evOps P mu ops rest ⟨putO fr dst (.when (gcond fr ops (some g)) (pureD P ⟨fr, h⟩ (.call ⟨.builtin .max, a, ts⟩))), h⟩ K) := evg_pure (by intro f args ts e; cases e)
theorem evq_max (a : Array Operand) (ts : Array TypeId) : evQs P ops (⟨dst, .call ⟨.builtin .max, a, ts⟩, ty, pos, af, none⟩ :: rest) ⟨fr, h⟩ K = (pureOk P ⟨fr, h⟩ (.call ⟨.builtin .max, a, ts⟩) ∧ evQs P ops rest ⟨putO fr dst (pureD P ⟨fr, h⟩ (.call ⟨.builtin .max, a, ts⟩)), h⟩ K) := evq_pure (by intro f args ts e; cases e)
theorem evqg_max (a : Array Operand) (ts : Array TypeId) : evQs P ops (⟨dst, .call ⟨.builtin .max, a, ts⟩, ty, pos, af, some g⟩ :: rest) ⟨fr, h⟩ K = (gok fr ops (some g) ∧ (gcond fr ops (some g) = true → pureOk P ⟨fr, h⟩ (.call ⟨.builtin .max, a, ts⟩)) ∧ evQs P ops rest ⟨putO fr dst (.when (gcond fr ops (some g)) (pureD P ⟨fr, h⟩ (.call ⟨.builtin .max, a, ts⟩))), h⟩ K) := evqg_pure (by intro f args ts e; cases e)

/-! ### Regions that draw their order and store -/

theorem inX_mkU {st : St} (T U : List Nat) (hM : mixB ops = true) (hT : ∀ t, t ∈ T → t < st.h.length) (k : evX0 P ops st.h.length ⟨T, U, none, false⟩ ops st K) : InX P ops st K := ⟨hM, .inl ⟨⟨T, U, none, false⟩, (fun e => nomatch e), hT, k⟩⟩
theorem inX_mk {st : St} (T : List Nat) (hM : mixB ops = true) (hT : ∀ t, t ∈ T → t < st.h.length) (k : evX0 P ops st.h.length ⟨T, [], none, false⟩ ops st K) : InX P ops st K := ⟨hM, .inl ⟨⟨T, [], none, false⟩, (fun e => nomatch e), hT, k⟩⟩
/-- with a place kept for the region's one variable: calls may leave objects -/
theorem inX_mkP {st : St} (T : List Nat) (hM : mixB ops = true) (hT : ∀ t, t ∈ T → t < st.h.length) (k : evX0 P ops (st.h.length + 1) ⟨T, [st.h.length], some st.h.length, false⟩ ops ⟨st.fr, st.h ++ [.buf 0]⟩ K) : InX P ops st K := ⟨hM, .inr ⟨⟨T, [st.h.length], some st.h.length, false⟩, (fun e => nomatch e), hT, k⟩⟩
/-- an append to a row of T makes a new row -/
theorem inX_mkG {st : St} (T U : List Nat) (hM : mixB ops = true) (hS : mixS ops = true) (hT : ∀ t, t ∈ T → t < st.h.length) (k : evX0 P ops st.h.length ⟨T, U, none, true⟩ ops st K) : InX P ops st K := ⟨hM, .inl ⟨⟨T, U, none, true⟩, (fun _ => hS), hT, k⟩⟩
variable {n : Nat} {T : TU}
omit [Start] in
theorem calm_ptr (r off : Nat) : calm n T (.ptr r off) ↔ r < n ∧ r ∉ T.t ∧ r ∉ T.u := Iff.rfl
omit [Start] in
theorem calm_vptr (cs : List D) : calm n T (.vptr cs) ↔ True := Iff.rfl

/-- A call is next in such a region. -/
def CallX (P : Program) (ops : List Oper) (n : Nat) (T : TU) (rest : List Oper) (dst : Option Tmp) (fr : Fr) (h : Hp) (K : St → Prop) (f : FuncId) (args : List D) : Prop :=
  ∃ d as R rows, AddsM P f as h d R rows ∧ (∀ p, p ∈ R → p.1 ∈ T.t) ∧ (freeAl ops = true → T.p = none → rows = [] ∧ AddsF P f as h d R) ∧ WkL args as ∧ evX0 P ops n T rest ⟨putO fr dst d, setAll h R ++ rows⟩ K
def AppX (P : Program) (ops : List Oper) (n : Nat) (T : TU) (rest : List Oper) (dst : Option Tmp) (fr : Fr) (h : Hp) (K : St → Prop) (t : TypeId) (s x : D) : Prop := appGo P (gx T dst s) t h s x fun d h' => evX0 P ops n T rest ⟨putO fr dst d, h'⟩ K

theorem evx_nil : evX0 P ops n T [] ⟨fr, h⟩ K = K ⟨fr, h⟩ := rfl
theorem evX0_none (op : Op) (st : St) : evX0 P ops n T (⟨dst, op, ty, pos, af, none⟩ :: rest) st K = ∃ st', mixY P ops n T ⟨dst, op, ty, pos, af, none⟩ st st' ∧ evX0 P ops n T rest st' K := by
  show (∃ st', mixZ P ops n T ⟨dst, op, ty, pos, af, none⟩ st st' ∧ evX0 P ops n T rest st' K) = _
  simp only [mixZ_none (o := ⟨dst, op, ty, pos, af, none⟩) rfl]
theorem evx_load (t : TypeId) (x : Operand) : evX0 P ops n T (⟨dst, .load t x, ty, pos, af, none⟩ :: rest) ⟨fr, h⟩ K = (ok1 fr x ∧ loadOk P t h (vl fr x) ∧ calm n T (vl fr x) ∧ evX0 P ops n T rest ⟨putO fr dst (loadD P t h (vl fr x)), h⟩ K) := by
  rw [evX0_none]
  apply propext
  constructor
  · rintro ⟨st', ⟨h1, h2, h3, h4, rfl⟩, h5⟩
    exact ⟨h2, h3, h4, h5⟩
  · rintro ⟨h2, h3, h4, h5⟩
    exact ⟨_, ⟨rfl, h2, h3, h4, rfl⟩, h5⟩
theorem evx_store (t : TypeId) (x y : Operand) : evX0 P ops n T (⟨dst, .store t x y, ty, pos, af, none⟩ :: rest) ⟨fr, h⟩ K = (ok1 fr x ∧ ok1 fr y ∧ storeOk P t h (vl fr x) (vl fr y) ∧ (((ptrOf (vl fr x)).1 < n ∨ (freeAl ops = true ∧ T.p = none)) ∧ (ptrOf (vl fr x)).1 ∉ T.t ∧ UOk ops T.u (ptrOf (vl fr x)).1) ∧ evX0 P ops n T rest ⟨putO fr dst .junk, storeH h (vl fr x) (vl fr y)⟩ K) := by
  rw [evX0_none]
  apply propext
  constructor
  · rintro ⟨st', ⟨h1, h2, h3, h4, h6, rfl⟩, h5⟩
    exact ⟨h2, h3, h4, h6, h5⟩
  · rintro ⟨h2, h3, h4, h6, h5⟩
    exact ⟨_, ⟨rfl, h2, h3, h4, h6, rfl⟩, h5⟩
omit [Start] in
theorem ob_buf {h : Hp} {q m : Nat} : ob h q = .buf m ↔ h[q]? = some (.buf m) := by
  rw [ob, List.getD_eq_getElem?_getD]
  cases h[q]? with
  | none => exact ⟨fun e => (nomatch e), fun e => nomatch e⟩
  | some x => exact ⟨fun e => congrArg some e, fun e => Option.some.inj e⟩
theorem evx_alloc (t : TypeId) : evX0 P ops n T (⟨dst, .alloc t, ty, pos, af, none⟩ :: rest) ⟨fr, h⟩ K = ((ti P t).zero.isEmpty = false ∧ (match T.p with
    | none => evX0 P ops n T rest ⟨putO fr dst (.ptr h.length 0), h ++ [.row (ti P t).zero]⟩ K
    | some q => (q < n ∧ ob h q = .buf 0 ∧ q ∉ T.t ∧ q ∈ T.u) ∧ evX0 P ops n T rest ⟨putO fr dst (.ptr q 0), h.set q (.row (ti P t).zero)⟩ K)) := by
  rw [evX0_none]
  apply propext
  cases hp : T.p with
  | none =>
    constructor
    · rintro ⟨st', ⟨h1, h2, h3⟩, h5⟩
      obtain rfl := (allocY_none hp ..).1 h3
      exact ⟨h2, h5⟩
    · rintro ⟨h2, h5⟩
      exact ⟨_, ⟨rfl, h2, (allocY_none hp ..).2 rfl⟩, h5⟩
  | some q =>
    constructor
    · rintro ⟨st', ⟨h1, h2, h3⟩, h5⟩
      obtain ⟨⟨c1, c2, c3⟩, rfl⟩ := (allocY_some hp ..).1 h3
      exact ⟨h2, ⟨c1, ob_buf.2 c2, c3⟩, h5⟩
    · rintro ⟨h2, ⟨c1, c2, c3⟩, h5⟩
      exact ⟨_, ⟨rfl, h2, (allocY_some hp ..).2 ⟨⟨c1, ob_buf.1 c2, c3⟩, rfl⟩⟩, h5⟩
theorem evx_bs (t : TypeId) (m : Nat) (parts : Array (Nat × Operand)) : evX0 P ops n T (⟨dst, .buildSlice t m parts, ty, pos, af, none⟩ :: rest) ⟨fr, h⟩ K =
    (allOk1 fr (parts.toList.map (·.2)) ∧ bsOk P t m (parts.toList.map (·.1)) (parts.toList.map fun p => vl fr p.2) ∧ (∀ e, e ∈ parts.toList.map (fun p => vl fr p.2) → Cl 0 e) ∧ evX0 P ops n T rest ⟨putO fr dst (.slice (parts.toList.map fun p => vl fr p.2) .full), h⟩ K) := by
  rw [evX0_none]
  apply propext
  constructor
  · rintro ⟨st', hy, h5⟩
    obtain ⟨_, _, h2, rfl⟩ := (mixY_free (o := ⟨dst, .buildSlice t m parts, ty, pos, af, none⟩) rfl).1 hy
    obtain ⟨k1, k2, k3⟩ := h2 rfl
    exact ⟨k1, k2, k3, h5⟩
  · rintro ⟨k1, k2, k3, h5⟩
    exact ⟨_, (mixY_free (o := ⟨dst, .buildSlice t m parts, ty, pos, af, none⟩) rfl).2 ⟨⟨fun _ => rfl, rfl⟩, trivial, fun _ => ⟨k1, k2, k3⟩, rfl⟩, h5⟩
theorem evx_append (s x : Operand) (t t' : TypeId) : evX0 P ops n T (⟨dst, .call ⟨.builtin .append, #[s, x], #[t, t']⟩, ty, pos, af, none⟩ :: rest) ⟨fr, h⟩ K =
    (t' = t ∧ ok1 fr s ∧ ok1 fr x ∧ inT T (vl fr s) ∧ AppX P ops n T rest dst fr h K t (vl fr s) (vl fr x)) := by
  rw [evX0_none]
  apply propext
  constructor
  · rintro ⟨st', ⟨h1, d, h', ⟨k1, k2, k3, k4⟩, h3, rfl⟩, h5⟩
    exact ⟨k1, k2, k3, h3, appGo_mono (fun d' h'' ⟨e1, e2⟩ => by subst e1 e2; exact h5) k4⟩
  · rintro ⟨k1, k2, k3, h3, k4⟩
    obtain ⟨d, h', e1, e2⟩ := appGo_fn k4
    exact ⟨_, ⟨rfl, d, h', ⟨k1, k2, k3, e1⟩, h3, rfl⟩, e2⟩
theorem evx_copy (s x : Operand) (t t' : TypeId) : evX0 P ops n T (⟨dst, .call ⟨.builtin .copy, #[s, x], #[t, t']⟩, ty, pos, af, none⟩ :: rest) ⟨fr, h⟩ K =
    (ok1 fr s ∧ ok1 fr x ∧ inT T (vl fr s) ∧ copyOk P t h (vl fr s) (vl fr x) ∧ evX0 P ops n T rest ⟨putO fr dst (copyD (vl fr s) (vl fr x)), copyH h (vl fr s) (vl fr x)⟩ K) := by
  rw [evX0_none]
  apply propext
  constructor
  · rintro ⟨st', ⟨h1, d, h', ⟨k1, k2, k3, rfl, rfl⟩, h3, rfl⟩, h5⟩
    exact ⟨k1, k2, h3, k3, h5⟩
  · rintro ⟨k1, k2, h3, k3, h5⟩
    exact ⟨_, ⟨rfl, _, _, ⟨k1, k2, k3, rfl, rfl⟩, h3, rfl⟩, h5⟩
theorem appx_full (t : TypeId) (es news : List D) (t2 : Tok) : AppX P ops n T rest dst fr h K t (.slice es .full) (.slice news t2) =
    (appOk P t es news ∧ evX0 P ops n T rest ⟨putO fr dst (.slice (es ++ news) (.buf h.length (ti P (ti P t).elem).sz)), h ++ [.buf ((es.length + news.length) * (ti P (ti P t).elem).sz)]⟩ K) := rfl
theorem appx_buf (t : TypeId) (es news : List D) (r sz : Nat) (t2 : Tok) : AppX P ops n T rest dst fr h K t (.slice es (.buf r sz)) (.slice news t2) =
    (appOk P t es news ∧ sz = (ti P (ti P t).elem).sz ∧ isBuf (ob h r) (es.length * (ti P (ti P t).elem).sz) ∧ evX0 P ops n T rest ⟨putO fr dst (.slice (es ++ news) (.buf r sz)), h.set r (.buf ((es.length + news.length) * (ti P (ti P t).elem).sz))⟩ K) := rfl
theorem appx_vec {T U : List Nat} {p : Option Nat} (t : TypeId) (r : Nat) (ag : Bool) (sz off len cp : Nat) (x : D) : AppX P ops n ⟨T, U, p, false⟩ rest dst fr h K t (.vec r ag sz off len cp) x =
    (appVok P t h (.vec r ag sz off len cp) x ∧ evX0 P ops n ⟨T, U, p, false⟩ rest ⟨putO fr dst (appVd (.vec r ag sz off len cp) x), appVh h (.vec r ag sz off len cp) x⟩ K) := by cases x <;> rfl
theorem appx_vecg {T U : List Nat} {p : Option Nat} {u : Tmp} (t : TypeId) (r : Nat) (ag : Bool) (sz off len cp : Nat) (x : D) : AppX P ops n ⟨T, U, p, true⟩ rest (some u) fr h K t (.vec r ag sz off len cp) x =
    (growOk P t h (.vec r ag sz off len cp) x ∧ evX0 P ops n ⟨T, U, p, true⟩ rest ⟨putO fr (some u) (growD h (.vec r ag sz off len cp) x), growH h (.vec r ag sz off len cp) x⟩ K) := by cases x <;> rfl
theorem evx_call (f : Operand) (args : Array Operand) (ts : Array TypeId) : evX0 P ops n T (⟨dst, .call ⟨.value f, args, ts⟩, ty, pos, af, none⟩ :: rest) ⟨fr, h⟩ K =
    (ok1 fr f ∧ isFn (vl fr f) ∧ allOk1 fr args.toList ∧ CallX P ops n T rest dst fr h K (fnId (vl fr f)) (args.toList.map (vl fr) ++ fnCaps (vl fr f))) := by
  rw [evX0_none]
  apply propext
  constructor
  · rintro ⟨st', ⟨h1, h2, h3, h4, d, as, R, rows, h5, h5', hfa, h6, rfl⟩, h7⟩
    exact ⟨h2, h3, h4, d, as, R, rows, h5, h5', hfa, h6, h7⟩
  · rintro ⟨h2, h3, h4, d, as, R, rows, h5, h5', hfa, h6, h7⟩
    exact ⟨_, ⟨.inl rfl, h2, h3, h4, d, as, R, rows, h5, h5', hfa, h6, rfl⟩, h7⟩
theorem evx_pure {op : Op} (hc : opCls op = 0) (hb : isBs op = false) (hG : isG P op = false := by rfl) : evX0 P ops n T (⟨dst, op, ty, pos, af, none⟩ :: rest) ⟨fr, h⟩ K = (pureOk P ⟨fr, h⟩ op ∧ evX0 P ops n T rest ⟨putO fr dst (pureD P ⟨fr, h⟩ op), h⟩ K) := by
  have hx : xOk P ⟨fr, h⟩ op = pureOk P ⟨fr, h⟩ op ∧ xD P ⟨fr, h⟩ op = pureD P ⟨fr, h⟩ op := by cases op <;> first | exact ⟨rfl, rfl⟩ | simp [isBs] at hb
  rw [evX0_none]
  apply propext
  constructor
  · rintro ⟨st', hy, hk⟩
    obtain ⟨_, h1, h2, rfl⟩ := (mixY_free (o := ⟨dst, op, ty, pos, af, none⟩) hc).1 hy
    have h2 := h2 rfl
    simp only at h2 hk
    rw [hx.1] at h2
    simp only [wrapG] at hk
    rw [hx.2] at hk
    exact ⟨h2, hk⟩
  · rintro ⟨h2, hk⟩
    refine ⟨_, (mixY_free (o := ⟨dst, op, ty, pos, af, none⟩) hc).2 ⟨⟨fun e => absurd (hb.symm.trans e) (by simp), hG⟩, trivial, fun _ => by simp only; rw [hx.1]; exact h2, rfl⟩, ?_⟩
    simp only [wrapG]
    rw [hx.2]
    exact hk
theorem evx_move (x : Operand) : evX0 P ops n T (⟨dst, .move x, ty, pos, af, none⟩ :: rest) ⟨fr, h⟩ K = (pureOk P ⟨fr, h⟩ (.move x) ∧ evX0 P ops n T rest ⟨putO fr dst (pureD P ⟨fr, h⟩ (.move x)), h⟩ K) := evx_pure rfl rfl
theorem evx_assign (x : Operand) : evX0 P ops n T (⟨dst, .assign x, ty, pos, af, none⟩ :: rest) ⟨fr, h⟩ K = (pureOk P ⟨fr, h⟩ (.assign x) ∧ evX0 P ops n T rest ⟨putO fr dst (pureD P ⟨fr, h⟩ (.assign x)), h⟩ K) := evx_pure rfl rfl
theorem evx_pick (c x y : Operand) : evX0 P ops n T (⟨dst, .pick c x y, ty, pos, af, none⟩ :: rest) ⟨fr, h⟩ K = (pureOk P ⟨fr, h⟩ (.pick c x y) ∧ evX0 P ops n T rest ⟨putO fr dst (pureD P ⟨fr, h⟩ (.pick c x y)), h⟩ K) := evx_pure rfl rfl
theorem evx_fieldAddr (s : TypeId) (x : Operand) (f : Nat) : evX0 P ops n T (⟨dst, .fieldAddr s x f, ty, pos, af, none⟩ :: rest) ⟨fr, h⟩ K = (pureOk P ⟨fr, h⟩ (.fieldAddr s x f) ∧ evX0 P ops n T rest ⟨putO fr dst (pureD P ⟨fr, h⟩ (.fieldAddr s x f)), h⟩ K) := evx_pure rfl rfl
theorem evx_indexAddr (t : TypeId) (x : Tmp) (i : Operand) : evX0 P ops n T (⟨dst, .indexAddr t (.tmp x) i, ty, pos, af, none⟩ :: rest) ⟨fr, h⟩ K = (pureOk P ⟨fr, h⟩ (.indexAddr t (.tmp x) i) ∧ evX0 P ops n T rest ⟨putO fr dst (pureD P ⟨fr, h⟩ (.indexAddr t (.tmp x) i)), h⟩ K) := evx_pure rfl rfl
theorem evx_index (t : TypeId) (x i : Operand) : evX0 P ops n T (⟨dst, .index t x i, ty, pos, af, none⟩ :: rest) ⟨fr, h⟩ K = (pureOk P ⟨fr, h⟩ (.index t x i) ∧ evX0 P ops n T rest ⟨putO fr dst (pureD P ⟨fr, h⟩ (.index t x i)), h⟩ K) := evx_pure rfl rfl
theorem evx_binOp (b : BinOp) (t : TypeId) (x y : Operand) (u : TypeId) : evX0 P ops n T (⟨dst, .binOp b t x y u, ty, pos, af, none⟩ :: rest) ⟨fr, h⟩ K = (pureOk P ⟨fr, h⟩ (.binOp b t x y u) ∧ evX0 P ops n T rest ⟨putO fr dst (pureD P ⟨fr, h⟩ (.binOp b t x y u)), h⟩ K) := evx_pure rfl rfl
theorem evx_unOp (b : UnOp) (t : TypeId) (x : Operand) : evX0 P ops n T (⟨dst, .unOp b t x, ty, pos, af, none⟩ :: rest) ⟨fr, h⟩ K = (pureOk P ⟨fr, h⟩ (.unOp b t x) ∧ evX0 P ops n T rest ⟨putO fr dst (pureD P ⟨fr, h⟩ (.unOp b t x)), h⟩ K) := evx_pure rfl rfl
theorem evx_extract (x : Operand) (i : Nat) : evX0 P ops n T (⟨dst, .extract x i, ty, pos, af, none⟩ :: rest) ⟨fr, h⟩ K = (pureOk P ⟨fr, h⟩ (.extract x i) ∧ evX0 P ops n T rest ⟨putO fr dst (pureD P ⟨fr, h⟩ (.extract x i)), h⟩ K) := evx_pure rfl rfl
theorem evx_slice (t : TypeId) (x : Operand) (l h' m : Option Operand) : evX0 P ops n T (⟨dst, .slice t x l h' m, ty, pos, af, none⟩ :: rest) ⟨fr, h⟩ K = (isArrKB (ti P t).kind = false ∧ pureOk P ⟨fr, h⟩ (.slice t x l h' m) ∧ evX0 P ops n T rest ⟨putO fr dst (pureD P ⟨fr, h⟩ (.slice t x l h' m)), h⟩ K) := by
  cases hk : isArrKB (ti P t).kind with
  | true =>
    rw [evX0_none]
    apply propext
    simp only [Bool.true_eq_false, false_and, iff_false]
    rintro ⟨st', hy, _⟩
    obtain ⟨h0, _⟩ := (mixY_free (o := ⟨dst, .slice t x l h' m, ty, pos, af, none⟩) rfl).1 hy
    have h1 := h0.2
    simp only [isG, hk] at h1
    cases h1
  | false =>
    simp only [true_and]
    exact evx_pure rfl rfl hk
theorem evx_nilCheck (x : Operand) : evX0 P ops n T (⟨dst, .nilCheck x, ty, pos, af, none⟩ :: rest) ⟨fr, h⟩ K = (pureOk P ⟨fr, h⟩ (.nilCheck x) ∧ evX0 P ops n T rest ⟨putO fr dst (pureD P ⟨fr, h⟩ (.nilCheck x)), h⟩ K) := evx_pure rfl rfl
theorem evx_makeFunc (f : Fn) (a c : Array Operand) : evX0 P ops n T (⟨dst, .makeFunc f a c, ty, pos, af, none⟩ :: rest) ⟨fr, h⟩ K = (pureOk P ⟨fr, h⟩ (.makeFunc f a c) ∧ evX0 P ops n T rest ⟨putO fr dst (pureD P ⟨fr, h⟩ (.makeFunc f a c)), h⟩ K) := evx_pure rfl rfl
theorem evx_build (t : TypeId) (p : Array (Nat × Operand)) : evX0 P ops n T (⟨dst, .build t p, ty, pos, af, none⟩ :: rest) ⟨fr, h⟩ K = (isArrKB (ti P t).kind = false ∧ pureOk P ⟨fr, h⟩ (.build t p) ∧ evX0 P ops n T rest ⟨putO fr dst (pureD P ⟨fr, h⟩ (.build t p)), h⟩ K) := by
  cases hk : isArrKB (ti P t).kind with
  | true =>
    rw [evX0_none]
    apply propext
    simp only [Bool.true_eq_false, false_and, iff_false]
    rintro ⟨st', hy, _⟩
    obtain ⟨h0, _⟩ := (mixY_free (o := ⟨dst, .build t p, ty, pos, af, none⟩) rfl).1 hy
    have h1 := h0.2
    simp only [isG, hk] at h1
    cases h1
  | false =>
    simp only [true_and]
    exact evx_pure rfl rfl hk
theorem evx_convert (s t : TypeId) (x : Operand) : evX0 P ops n T (⟨dst, .convert s t x, ty, pos, af, none⟩ :: rest) ⟨fr, h⟩ K = (isSliceKB (ti P t).kind = false ∧ (noVec (vl fr x) ∧ ok1 fr x ∧ convHOk P [] s t (vl fr x)) ∧ evX0 P ops n T rest ⟨putO fr dst (convX P t (vl fr x)), h⟩ K) := by
  rw [evX0_none]
  apply propext
  constructor
  · rintro ⟨st', hy, h5⟩
    obtain ⟨h0, _, h2, rfl⟩ := (mixY_free (o := ⟨dst, .convert s t x, ty, pos, af, none⟩) rfl).1 hy
    exact ⟨h0.2, h2 rfl, h5⟩
  · rintro ⟨k0, k1, h5⟩
    exact ⟨_, (mixY_free (o := ⟨dst, .convert s t x, ty, pos, af, none⟩) rfl).2 ⟨⟨fun _ => rfl, k0⟩, trivial, fun _ => k1, rfl⟩, h5⟩
theorem evx_len (a : Array Operand) (ts : Array TypeId) : evX0 P ops n T (⟨dst, .call ⟨.builtin .len, a, ts⟩, ty, pos, af, none⟩ :: rest) ⟨fr, h⟩ K = (pureOk P ⟨fr, h⟩ (.call ⟨.builtin .len, a, ts⟩) ∧ evX0 P ops n T rest ⟨putO fr dst (pureD P ⟨fr, h⟩ (.call ⟨.builtin .len, a, ts⟩)), h⟩ K) := evx_pure rfl rfl
theorem evx_cap (a : Array Operand) (ts : Array TypeId) : evX0 P ops n T (⟨dst, .call ⟨.builtin .cap, a, ts⟩, ty, pos, af, none⟩ :: rest) ⟨fr, h⟩ K = (pureOk P ⟨fr, h⟩ (.call ⟨.builtin .cap, a, ts⟩) ∧ evX0 P ops n T rest ⟨putO fr dst (pureD P ⟨fr, h⟩ (.call ⟨.builtin .cap, a, ts⟩)), h⟩ K) := evx_pure rfl rfl
theorem evx_min (a : Array Operand) (ts : Array TypeId) : evX0 P ops n T (⟨dst, .call ⟨.builtin .min, a, ts⟩, ty, pos, af, none⟩ :: rest) ⟨fr, h⟩ K = (pureOk P ⟨fr, h⟩ (.call ⟨.builtin .min, a, ts⟩) ∧ evX0 P ops n T rest ⟨putO fr dst (pureD P ⟨fr, h⟩ (.call ⟨.builtin .min, a, ts⟩)), h⟩ K) := evx_pure rfl rfl
theorem evx_max (a : Array Operand) (ts : Array TypeId) : evX0 P ops n T (⟨dst, .call ⟨.builtin .max, a, ts⟩, ty, pos, af, none⟩ :: rest) ⟨fr, h⟩ K = (pureOk P ⟨fr, h⟩ (.call ⟨.builtin .max, a, ts⟩) ∧ evX0 P ops n T rest ⟨putO fr dst (pureD P ⟨fr, h⟩ (.call ⟨.builtin .max, a, ts⟩)), h⟩ K) := evx_pure rfl rfl
variable {g : Nat × Bool}
theorem evxg_pure {op : Op} (hc : opCls op = 0) (hb : isBs op = false) (hG : isG P op = false := by rfl) : evX0 P ops n T (⟨dst, op, ty, pos, af, some g⟩ :: rest) ⟨fr, h⟩ K =
    (gok fr ops (some g) ∧ (gcond fr ops (some g) = true → pureOk P ⟨fr, h⟩ op) ∧ evX0 P ops n T rest ⟨putO fr dst (.when (gcond fr ops (some g)) (pureD P ⟨fr, h⟩ op)), h⟩ K) := by
  have hx : xOk P ⟨fr, h⟩ op = pureOk P ⟨fr, h⟩ op ∧ xD P ⟨fr, h⟩ op = pureD P ⟨fr, h⟩ op := by cases op <;> first | exact ⟨rfl, rfl⟩ | simp [isBs] at hb
  show (∃ st', mixZ P ops n T ⟨dst, op, ty, pos, af, some g⟩ ⟨fr, h⟩ st' ∧ evX0 P ops n T rest st' K) = _
  simp only [mixZ_free (o := ⟨dst, op, ty, pos, af, some g⟩) hc]
  apply propext
  constructor
  · rintro ⟨st', hy, hk⟩
    obtain ⟨_, h1, h2, rfl⟩ := (mixY_free (o := ⟨dst, op, ty, pos, af, some g⟩) hc).1 hy
    simp only at h1 h2 hk
    rw [hx.1] at h2
    simp only [wrapG] at hk
    rw [hx.2] at hk
    exact ⟨h1, h2, hk⟩
  · rintro ⟨h1, h2, hk⟩
    refine ⟨_, (mixY_free (o := ⟨dst, op, ty, pos, af, some g⟩) hc).2 ⟨⟨fun e => absurd (hb.symm.trans e) (by simp), hG⟩, h1, fun e => by simp only; rw [hx.1]; exact h2 e, rfl⟩, ?_⟩
    simp only [wrapG]
    rw [hx.2]
    exact hk
theorem evxg_move (x : Operand) : evX0 P ops n T (⟨dst, .move x, ty, pos, af, some g⟩ :: rest) ⟨fr, h⟩ K = (gok fr ops (some g) ∧ (gcond fr ops (some g) = true → pureOk P ⟨fr, h⟩ (.move x)) ∧ evX0 P ops n T rest ⟨putO fr dst (.when (gcond fr ops (some g)) (pureD P ⟨fr, h⟩ (.move x))), h⟩ K) := evxg_pure rfl rfl
theorem evxg_assign (x : Operand) : evX0 P ops n T (⟨dst, .assign x, ty, pos, af, some g⟩ :: rest) ⟨fr, h⟩ K = (gok fr ops (some g) ∧ (gcond fr ops (some g) = true → pureOk P ⟨fr, h⟩ (.assign x)) ∧ evX0 P ops n T rest ⟨putO fr dst (.when (gcond fr ops (some g)) (pureD P ⟨fr, h⟩ (.assign x))), h⟩ K) := evxg_pure rfl rfl
theorem evxg_pick (c x y : Operand) : evX0 P ops n T (⟨dst, .pick c x y, ty, pos, af, some g⟩ :: rest) ⟨fr, h⟩ K = (gok fr ops (some g) ∧ (gcond fr ops (some g) = true → pureOk P ⟨fr, h⟩ (.pick c x y)) ∧ evX0 P ops n T rest ⟨putO fr dst (.when (gcond fr ops (some g)) (pureD P ⟨fr, h⟩ (.pick c x y))), h⟩ K) := evxg_pure rfl rfl
theorem evxg_fieldAddr (s : TypeId) (x : Operand) (f : Nat) : evX0 P ops n T (⟨dst, .fieldAddr s x f, ty, pos, af, some g⟩ :: rest) ⟨fr, h⟩ K = (gok fr ops (some g) ∧ (gcond fr ops (some g) = true → pureOk P ⟨fr, h⟩ (.fieldAddr s x f)) ∧ evX0 P ops n T rest ⟨putO fr dst (.when (gcond fr ops (some g)) (pureD P ⟨fr, h⟩ (.fieldAddr s x f))), h⟩ K) := evxg_pure rfl rfl
theorem evxg_binOp (b : BinOp) (t : TypeId) (x y : Operand) (u : TypeId) : evX0 P ops n T (⟨dst, .binOp b t x y u, ty, pos, af, some g⟩ :: rest) ⟨fr, h⟩ K = (gok fr ops (some g) ∧ (gcond fr ops (some g) = true → pureOk P ⟨fr, h⟩ (.binOp b t x y u)) ∧ evX0 P ops n T rest ⟨putO fr dst (.when (gcond fr ops (some g)) (pureD P ⟨fr, h⟩ (.binOp b t x y u))), h⟩ K) := evxg_pure rfl rfl
theorem evxg_unOp (b : UnOp) (t : TypeId) (x : Operand) : evX0 P ops n T (⟨dst, .unOp b t x, ty, pos, af, some g⟩ :: rest) ⟨fr, h⟩ K = (gok fr ops (some g) ∧ (gcond fr ops (some g) = true → pureOk P ⟨fr, h⟩ (.unOp b t x)) ∧ evX0 P ops n T rest ⟨putO fr dst (.when (gcond fr ops (some g)) (pureD P ⟨fr, h⟩ (.unOp b t x))), h⟩ K) := evxg_pure rfl rfl
theorem evxg_extract (x : Operand) (i : Nat) : evX0 P ops n T (⟨dst, .extract x i, ty, pos, af, some g⟩ :: rest) ⟨fr, h⟩ K = (gok fr ops (some g) ∧ (gcond fr ops (some g) = true → pureOk P ⟨fr, h⟩ (.extract x i)) ∧ evX0 P ops n T rest ⟨putO fr dst (.when (gcond fr ops (some g)) (pureD P ⟨fr, h⟩ (.extract x i))), h⟩ K) := evxg_pure rfl rfl
theorem evxg_len (a : Array Operand) (ts : Array TypeId) : evX0 P ops n T (⟨dst, .call ⟨.builtin .len, a, ts⟩, ty, pos, af, some g⟩ :: rest) ⟨fr, h⟩ K = (gok fr ops (some g) ∧ (gcond fr ops (some g) = true → pureOk P ⟨fr, h⟩ (.call ⟨.builtin .len, a, ts⟩)) ∧ evX0 P ops n T rest ⟨putO fr dst (.when (gcond fr ops (some g)) (pureD P ⟨fr, h⟩ (.call ⟨.builtin .len, a, ts⟩))), h⟩ K) := evxg_pure rfl rfl
theorem evxg_call (f : Operand) (args : Array Operand) (ts : Array TypeId) (t : Tmp) : evX0 P ops n T (⟨some t, .call ⟨.value f, args, ts⟩, ty, pos, af, some g⟩ :: rest) ⟨fr, h⟩ K =
    (gok fr ops (some g) ∧ (gcond fr ops (some g) = true → ok1 fr f ∧ isFn (vl fr f) ∧ allOk1 fr args.toList ∧ CallX P ops n T rest (some t) fr h K (fnId (vl fr f)) (args.toList.map (vl fr) ++ fnCaps (vl fr f))) ∧
      (gcond fr ops (some g) = false → evX0 P ops n T rest ⟨putO fr (some t) (.when false .junk), h⟩ K)) := by
  apply propext
  constructor
  · rintro ⟨st', hy | ⟨_, _, _, a4, a5, rfl⟩, hk⟩
    · obtain ⟨h1, h2, h3, h4, d, as, R, rows, h5, h5', hfa, h6, rfl⟩ := hy
      rcases h1 with h1 | ⟨_, c2, c3⟩
      · cases h1
      · exact ⟨c2, fun _ => ⟨h2, h3, h4, d, as, R, rows, h5, h5', hfa, h6, hk⟩, fun e => absurd (e.symm.trans c3) Bool.false_ne_true⟩
    · exact ⟨a4, fun e => absurd (a5.symm.trans e) Bool.false_ne_true, fun _ => hk⟩
  · rintro ⟨k1, k2, k3⟩
    cases hc : gcond fr ops (some g) with
    | true =>
      obtain ⟨h2, h3, h4, d, as, R, rows, h5, h5', hfa, h6, h7⟩ := k2 hc
      exact ⟨_, .inl ⟨.inr ⟨rfl, k1, hc⟩, h2, h3, h4, d, as, R, rows, h5, h5', hfa, h6, rfl⟩, h7⟩
    | false => exact ⟨_, .inr ⟨rfl, rfl, ⟨_, rfl⟩, k1, hc, rfl⟩, k3 hc⟩
end

/-! ### Frozen calls -/

def FzL (h : Hp) : List D → List D → Prop
  | [], [] => True
  | a :: as, b :: bs => FW 0 h a b ∧ Cl 0 b ∧ FzL h as bs
  | _, _ => False
omit [Start] in
theorem fz_of {h : Hp} : ∀ {args as : List D}, FzL h args as → FzArgs h args as
  | [], [], _ => ⟨rfl, fun k h1 => absurd h1 (by simp)⟩
  | [], _ :: _, H => H.elim
  | _ :: _, [], H => H.elim
  | a :: args, b :: as, ⟨⟨d0, f1, f2⟩, f3, H⟩ => by
    obtain ⟨g1, g2⟩ := fz_of H
    refine ⟨by simp [g1], fun k h1 h2 => ?_⟩
    cases k with
    | zero => exact ⟨d0, f1, f2, f3⟩
    | succ k => exact g2 k (by simpa using h1) (by simpa using h2)

omit [Start] in
theorem nm_int (n : Nat) (k : IntKind) (i : Int) : NM n (.int k i) ↔ True := ⟨fun _ => trivial, fun _ => .int k i⟩
omit [Start] in
theorem nm_bool (n : Nat) (b : Bool) : NM n (.bool b) ↔ True := ⟨fun _ => trivial, fun _ => .bool b⟩
omit [Start] in
theorem nm_str (n : Nat) (s : List UInt8) : NM n (.str s) ↔ True := ⟨fun _ => trivial, fun _ => .str s⟩
omit [Start] in
theorem nm_vec (n r : Nat) (ag : Bool) (sz off len cp : Nat) : NM n (.vec r ag sz off len cp) ↔ n ≤ r := ⟨fun H => by cases H; assumption, fun H => .vec _ _ _ _ _ _ H⟩
omit [Start] in
theorem nm_agg (n : Nat) (cs : List D) : NM n (.agg cs) ↔ ∀ c, c ∈ cs → NM n c := ⟨fun H => by cases H; assumption, fun H => .agg _ H⟩
omit [Start] in
theorem nm_tup (n : Nat) (cs : List D) : NM n (.tup cs) ↔ ∀ c, c ∈ cs → NM n c := ⟨fun H => by cases H; assumption, fun H => .tup _ H⟩
omit [Start] in
theorem nm_full (n : Nat) : NM n (.slice [] .full) ↔ True := ⟨fun _ => trivial, fun _ => .snil _ (fun _ _ e => nomatch e)⟩
omit [Start] in
theorem nm_no (n : Nat) : NM n (.slice [] .no) ↔ True := ⟨fun _ => trivial, fun _ => .snil _ (fun _ _ e => nomatch e)⟩
omit [Start] in
theorem nm_junk (n : Nat) : NM n .junk ↔ True := ⟨fun _ => trivial, fun _ => .junk⟩
omit [Start] in
theorem nmob_row (n : Nat) (cs : List D) : NMob n (.row cs) ↔ ∀ c, c ∈ cs → NM n c := Iff.rfl
omit [Start] in
theorem deadOf_length (h : Hp) : (deadOf h).length = h.length := by simp [deadOf]

section
variable {P : Program} {mu : List Nat} {ops rest : List Oper} {dst : Option Tmp} {fr : Fr} {h : Hp} {K : St → Prop} {n : Nat}
omit [Start] in
theorem wkL_same : ∀ ys, WkL ys ys
  | [] => trivial
  | a :: ys => ⟨.refl a, wkL_same ys⟩
theorem fzS {f : FuncId} {ys as : List D} {d : D} (c : Gives P f as (deadOf h) d) (fz : FzL h ys as) (hn : NM h.length d) (k : evOps P mu ops rest ⟨putO fr dst d, h⟩ K) : CallSt P mu ops rest dst fr h K f ys :=
  call_gives (c.frozen (fz_of fz) hn) (wkL_same ys) k
theorem fzG {f : FuncId} {ys as : List D} {d : D} {c : Bool} (hc : c = true → Gives P f as (deadOf h) d) (fz : c = true → FzL h ys as) (hn : NM h.length d) (k : evOps P mu ops rest ⟨putO fr dst (.when c d), h⟩ K) : CallG P mu ops rest dst fr h K c f ys :=
  callG_gives (fun e => (hc e).frozen (fz_of (fz e)) hn) (fun _ => wkL_same ys) k
theorem fzQ {f : FuncId} {ys as : List D} {d : D} (c : Gives P f as (deadOf h) d) (fz : FzL h ys as) (hn : NM h.length d) (k : evQs P ops rest ⟨putO fr dst d, h⟩ K) : CallQ P ops rest dst fr h K f ys :=
  callQ_gives (c.frozen (fz_of fz) hn) (wkL_same ys) k
theorem fzQG {f : FuncId} {ys as : List D} {d : D} {c : Bool} (hc : c = true → Gives P f as (deadOf h) d) (fz : c = true → FzL h ys as) (hn : NM h.length d) (k : evQs P ops rest ⟨putO fr dst (.when c d), h⟩ K) : CallQG P ops rest dst fr h K c f ys :=
  callQG_gives (fun e => (hc e).frozen (fz_of (fz e)) hn) (fun _ => wkL_same ys) k
/-- The same for a call that leaves rows. -/
theorem fzM {f : FuncId} {ys as : List D} {d : D} {rows : Hp} (c : Meets P f as (deadOf h) fun d' h' => d' = d ∧ h' = deadOf h ++ rows) (fz : FzL h ys as) (hn : NM h.length d) (hr : ∀ x, x ∈ rows → NMob h.length x)
    (k : evOps P mu ops rest ⟨putO fr dst d, h ++ rows⟩ K) : CallSt P mu ops rest dst fr h K f ys :=
  call_meets (c.frozen (fz_of fz) (fun d' h' ⟨e1, e2⟩ => ⟨rows, e2, e1 ▸ hn, hr⟩)) (wkL_same ys) (fun d' h' ⟨rows', ⟨e1, e2⟩, e3⟩ => by
    have := List.append_cancel_left e2
    subst this e1 e3
    exact k)
omit [Start] in
theorem setAll_nil (h : Hp) : setAll h [] = h := rfl
omit [Start] in
theorem setAll_one (h : Hp) (r : Nat) (x : Ob) : setAll h [(r, x)] = h.set r x := rfl
/-- Calls in a region that draws and stores. -/
theorem callX {T : TU} {f : FuncId} {ys : List D} {d : D} {rows : Hp} (hfa : freeAl ops = false) (c : ∀ h' : Hp, h'.length = h.length → Meets P f ys h' fun d' h'' => d' = d ∧ h'' = h' ++ rows) (k : evX0 P ops n T rest ⟨putO fr dst d, h ++ rows⟩ K) : CallX P ops n T rest dst fr h K f ys := by
  refine ⟨d, ys, [], rows, fun h' hl _ => ?_, fun p hp => absurd hp (by simp), fun e _ => absurd e (by rw [hfa]; exact Bool.false_ne_true), wkL_same ys, ?_⟩
  · rw [setAll_nil]; exact c h' hl
  · rw [setAll_nil]; exact k
theorem callXG {T : TU} {f : FuncId} {ys : List D} {d : D} (c : ∀ h' : Hp, Gives P f ys h' d) (k : evX0 P ops n T rest ⟨putO fr dst d, h⟩ K) : CallX P ops n T rest dst fr h K f ys := by
  have hF : AddsF P f ys h d [] := fun h' _ => by rw [setAll_nil]; exact c h'
  refine ⟨d, ys, [], [], hF.adds, fun p hp => absurd hp (by simp), fun _ _ => ⟨rfl, hF⟩, wkL_same ys, ?_⟩
  rw [setAll_nil, List.append_nil]; exact k
/-- A call that turns the object r. -/
theorem callXR {T : TU} {f : FuncId} {ys : List D} {d : D} {r : Nat} {x : Ob} (hr : r ∈ T.t) (hrl : r < h.length) (c : ∀ h' : Hp, ob h' r = ob h r → r < h'.length → Meets P f ys h' fun d' h'' => d' = d ∧ h'' = h'.set r x) (k : evX0 P ops n T rest ⟨putO fr dst d, h.set r x⟩ K) : CallX P ops n T rest dst fr h K f ys := by
  have hF : AddsF P f ys h d [(r, x)] := fun h' hR => by
    have e := hR (r, x) List.mem_cons_self
    simp only at e
    rw [setAll_one]
    refine c h' (by simp only [ob, List.getD_eq_getElem?_getD, e]) ?_
    apply Decidable.byContradiction
    intro hn
    rw [List.getElem?_eq_none (by omega), List.getElem?_eq_getElem hrl] at e
    cases e
  refine ⟨d, ys, [(r, x)], [], hF.adds, fun p hp => ?_, fun _ _ => ⟨rfl, hF⟩, wkL_same ys, ?_⟩
  · rw [List.mem_singleton.1 hp]; exact hr
  · rw [setAll_one, List.append_nil]; exact k
end
end Go.Av

/- The laws for evaluating, marked as one simp set. -/
namespace Go.Av
set_option linter.unusedSectionVars false
variable [Start]

attribute [push_cast] ev_skip ev_label ev_region ev_draw ev_seq ev_cond ev_block ev_exit ev_ret then_normal then_exit then_ret block_normal block_exit block_ret fin_normal
  fin_ret evo_nil evq_nil evo_call evg_call evq_call evqg_call evo_alloc evo_box evo_store evo_bs evo_append appz_cap app_full_st app_buf_st evo_move
  evg_move evq_move evqg_move evo_assign evg_assign evq_assign evqg_assign evo_pick evg_pick evq_pick evqg_pick evo_load evg_load evq_load evqg_load evo_loadg evq_loadg evo_indexAddrg evq_indexAddrg isSliceKB isArrKB arrbOk isSeq arrOk arrD bytesOk bytesD
  evo_fieldAddr evg_fieldAddr evq_fieldAddr evqg_fieldAddr evo_indexAddr evg_indexAddr evq_indexAddr evqg_indexAddr evo_index evg_index evq_index
  evqg_index evo_binOp_t evo_binOp_i evo_binOp_b evo_binOp_s evo_binOp_p evo_binOp_n evg_binOp evq_binOp evqg_binOp evo_unOp evg_unOp evq_unOp evqg_unOp evo_extract
  evg_extract evq_extract evqg_extract evo_slice evg_slice evq_slice evqg_slice evo_nilCheck evg_nilCheck evq_nilCheck evqg_nilCheck evo_makeFunc
  evg_makeFunc evq_makeFunc evqg_makeFunc evo_build evg_build evq_build evqg_build evo_convert evg_convert evq_convert evqg_convert evo_len evg_len
  evq_len evqg_len evo_min evg_min evq_min evqg_min evo_max evg_max evq_max evqg_max muHas muRow muG gok gcond gval gslot wrapG pureOk pureD builtinD
  builtinOk lenD lenOk minD maxD opd constD ofVal vl un vc ok1 okO putO put binD binOk nilG isIfK isNilif cellsOk cellOk cellsEq cellEq csOf isAggD codeD unD unOk extD
  extOk indexD indexOk loadD loadOk fieldD fieldOk offAt idxD idxOk sliceD sliceOk bndOk bOk loOf hiOf tokOf convD convOk convH convHOk convX noVec isU8 isByte byteOf kindInt isInt isBool isStr
  isPtr isPtr' isFn isRef isRow isBuf isAg isStruct isSliceK isArrK isStrK isIntK intKB isBoolK solid cell1 iof kof bof sof rowOf ptrOf fnId fnCaps
  D.cells storeOk storeH splice zeroD bsOk allOk1 appOk flat_nil flat_cons frOf frL resD resV resOk List.lookup wk_refl wk_junk wk_bool wk_int wk_str
  wk_slice_no wk_slice wk_agg wk_tup WkL finS_gives fw_int fw_bool fw_str fw_slice fw_ptr fw_nilptr fw_nilif fw_agg fw_tup fw_vec FWL mkOk mk0Ok evo_make
  back_app back_refl ob_app0 ob_app ob_zero ob_succ set_app0 set_app allSz_int allSz_str allSz_nil allSz_cons allSz_append getD_ints getD_strs cl_int
  cl_bool cl_str cl_no cl_full cl_buf cl_vec cl_ptr cl_vptr cl_nilptr cl_nilfn cl_nilif cl_junk cl_agg cl_tup cl_fn cl_iface Nat.zero_add Nat.add_zero
  Nat.mul_one Nat.zero_mul Nat.one_mul Int.toNat_natCast Int.toNat_zero if_false if_true Bool.false_eq_true Bool.true_eq_false Bool.true_and
  Bool.and_true Bool.false_and Bool.and_false Bool.true_or Bool.or_true Bool.or_false Bool.false_or Bool.not_true Bool.not_false cond_true cond_false
  beq_self_eq_true beq_true beq_false Bool.cond_false_right Bool.cond_true_left Bool.not_not List.append_eq List.map_cons List.map_nil List.append_assoc
  List.cons_append List.nil_append List.append_nil List.length_cons List.length_nil List.length_append List.length_map List.length_take List.length_drop
  List.getElem?_cons_succ List.getElem?_cons_zero List.getElem?_toArray List.getD_cons_zero List.getD_cons_succ List.getD_nil List.take_succ_cons
  List.take_zero List.take_nil List.drop_succ_cons List.drop_zero List.drop_nil List.headD_cons List.headD_nil List.set_cons_zero List.set_cons_succ
  List.isEmpty_cons List.isEmpty_nil List.mem_cons List.not_mem_nil List.mem_singleton List.all_cons List.all_nil Option.bind_some Option.isSome_some
  Option.map_some Option.map_none Option.getD_some Option.getD_none true_and and_true false_and and_false true_implies false_implies implies_true
  imp_self forall_const or_false false_or forall_eq_or_imp forall_eq ne_eq not_false_eq_true not_true_eq_false exists_const and_self drop_map take_map
  List.take_length Nat.min_self Nat.sub_zero Nat.lt_add_one natCast0 decide_eq_true_eq decide_eq_false_iff_not Bool.not_eq_true Bool.and_eq_true
  Bool.or_eq_true Bool.or_eq_false_iff Bool.and_eq_false_imp Bool.not_eq_eq_eq_not Int.not_lt Int.not_le true_or or_true eq_self app_vec_st evo_copy
  evo_clear evo_nileq evo_nilne appVok appVd appVh srcOk srcN srcC copyOk copyD copyH clearOk clearH nilOk capD capOk evo_cap evg_cap evq_cap evqg_cap
  hasStore evx_nil evx_load evx_store evx_call evx_move evx_assign evx_pick evx_fieldAddr evx_indexAddr evx_index evx_binOp evx_unOp evx_extract
  evx_slice evx_nilCheck evx_makeFunc evx_build evx_convert evx_len evx_cap evx_min evx_max evxg_move evxg_assign evxg_pick evxg_fieldAddr evxg_binOp evxg_unOp evxg_extract evxg_len evxg_call calm_ptr calm_vptr evx_alloc evx_bs evx_copy evx_append
  appx_full appx_buf appx_vec appx_vecg growOk growD growH vtSts vtSt inT FzL nm_int nm_bool nm_str nm_vec nm_agg nm_tup nm_full nm_no nm_junk nmob_row deadOf_length fillD fillOk wk_vec
  fw_vecvec finS_meets back_rows ObCl List.range_zero List.contains_nil List.contains_cons List.range_succ List.elem_nil setAll_nil setAll_one

end Go.Av

/- Arguments as a statement reads them, seen as data of the engine. -/
namespace Go.Av
set_option linter.unusedSectionVars false
open Go.WideShapes
set_option linter.unusedVariables false

theorem own_nil (b o : Nat) : ¬ own [] [] b o := by
  rintro ⟨r, h, _⟩
  simp at h

/-- What is asked of a measure of read data. -/
structure Bulk {H : Type} (B : DataW H → Nat) (BL : List (DataW H) → Nat) : Prop where
  str : ∀ s, s.length ≤ B (.lit (.string s))
  sl : ∀ e s, BL e + BL s + 1 ≤ B (.slice e s)
  ag : ∀ p, BL p + 1 ≤ B (.agg p)
  one : ∀ d, 1 ≤ B d
  cons : ∀ d l, BL (d :: l) = B d + BL l

theorem Bulk.mem {H : Type} {B : DataW H → Nat} {BL : List (DataW H) → Nat} (K : Bulk B BL) {d : DataW H} {l : List (DataW H)} (h : d ∈ l) : B d ≤ BL l := by
  induction l with
  | nil => cases h
  | cons x r ih =>
    rw [K.cons]
    rcases List.mem_cons.1 h with e | e
    · subst e; omega
    · have := ih e; omega

theorem Bulk.len {H : Type} {B : DataW H → Nat} {BL : List (DataW H) → Nat} (K : Bulk B BL) (l : List (DataW H)) : l.length ≤ BL l := by
  induction l with
  | nil => simp
  | cons x r ih =>
    have := K.one x
    rw [K.cons, List.length_cons]
    omega

/-- Every reading of a value of type t gives cells that R tells of. -/
def IsT (P : Program) (t : TypeId) (R : List D → Prop) : Prop :=
  ∀ (H : Type) (enc : TypeId × Value → H) (w : World) (base : Nat) (sp : Nat → Bool) (held : Bool) (fuel : Nat) (cs : List Value) (x : DataW H × List MemPlace) (B : DataW H → Nat) (BL : List (DataW H) → Nat),
    Bulk B BL → DataW.trod enc P w base sp held fuel t cs = some x → B x.1 ≤ lenMax → ∃ ds, R ds ∧ RepL w (own [] []) [] [] ds cs

def RInt (k : IntKind) (ds : List D) : Prop := ∃ n, (k.min ≤ n ∧ n ≤ k.max) ∧ ds = [.int k n]
def RBool (ds : List D) : Prop := ∃ b, ds = [.bool b]
def RStr (ds : List D) : Prop := ∃ s, ds = [.str s]
def mkE (ag : Bool) (cs : List D) : D := if ag then .agg cs else cs.headD .junk
def RSlice (ag : Bool) (R : List D → Prop) (ds : List D) : Prop := ∃ ess : List (List D), (∀ es, es ∈ ess → R es) ∧ ess.length ≤ lenMax ∧ ds = [.slice (ess.map (mkE ag)) .no]
def RCat : List (List D → Prop) → List D → Prop
  | [], ds => ds = []
  | R :: Rs, ds => ∃ a b, R a ∧ RCat Rs b ∧ ds = a ++ b

section
variable {P : Program} {t : TypeId}

theorem repL_one {w : World} {ow : Nat → Nat → Prop} {σ : Sg} {h : Hp} {d : D} {v : Value} (H : Rep w ow σ h d v) : RepL w ow σ h [d] [v] := .cons H .nil

theorem isT_int {k : IntKind} (ht : P.underlying t = some (.int k)) : IsT P t (RInt k) := by
  intro H enc w base sp held fuel cs x B BL K h hb
  obtain ⟨n, rfl, rfl, hw⟩ := DataW.trod_int ht h
  simp only [Lit.wf, Bool.and_eq_true, decide_eq_true_eq] at hw
  exact ⟨_, ⟨n, hw, rfl⟩, repL_one (.int k n)⟩
theorem isT_bool (ht : P.underlying t = some .bool) : IsT P t RBool := by
  intro H enc w base sp held fuel cs x B BL K h hb
  obtain ⟨b, rfl, rfl⟩ := DataW.trod_bool ht h
  exact ⟨_, ⟨b, rfl⟩, repL_one (.bool b)⟩
theorem isT_str (ht : P.underlying t = some .string) : IsT P t RStr := by
  intro H enc w base sp held fuel cs x B BL K h hb
  obtain ⟨s, rfl, rfl, hw⟩ := DataW.trod_string ht h
  refine ⟨_, ⟨s.data.toList, rfl⟩, repL_one ?_⟩
  have := Rep.str (w := w) (ow := own [] []) (σ := []) (h := []) s.data.toList (Nat.le_trans (K.str _) hb)
  simpa using this

theorem flat_ess {ag : Bool} {sz : Nat} : ∀ {ess : List (List D)}, (∀ es, es ∈ ess → es.length = sz ∧ (ag = false → ∃ d, es = [d] ∧ d.cells = [d])) → flat (ess.map (mkE ag)) = ess.flatten
  | [], _ => rfl
  | es :: ess, h => by
    rw [List.map_cons, flat_cons, flat_ess (fun e he => h e (List.mem_cons_of_mem _ he)), List.flatten_cons]
    congr 1
    cases ag with
    | true => rfl
    | false =>
      obtain ⟨d, rfl, hd⟩ := (h es List.mem_cons_self).2 rfl
      exact hd

theorem flatten_get {α : Type} {sz : Nat} (hs : 0 < sz) : ∀ {ess : List (List α)} (hl : ∀ es, es ∈ ess → es.length = sz) {k : Nat}, ess.flatten[k]? = (ess[k / sz]?).bind fun es => es[k % sz]?
  | [], _, k => by simp
  | es :: ess, hl, k => by
    have h0 := hl es List.mem_cons_self
    rw [List.flatten_cons]
    by_cases hk : k < sz
    · rw [List.getElem?_append_left (by omega), Nat.div_eq_of_lt hk, Nat.mod_eq_of_lt hk]
      rfl
    · rw [List.getElem?_append_right (by omega), h0, flatten_get hs (fun e he => hl e (List.mem_cons_of_mem _ he))]
      obtain ⟨j, rfl⟩ : ∃ j, k = j + sz := ⟨k - sz, by omega⟩
      rw [Nat.add_sub_cancel, Nat.add_div_right _ hs, Nat.add_mod_right]
      rfl

theorem isT_slice {e : TypeId} {sz : Nat} {ag : Bool} {R : List D → Prop} (ht : P.underlying t = some (.slice e)) (hc : P.cellsOf e = sz) (hs : 0 < sz) (hR : IsT P e R)
    (hag : ag = false → ∀ es, R es → ∃ d, es = [d] ∧ d.cells = [d]) : IsT P t (RSlice ag R) := by
  intro H enc w base sp held fuel cs x B BL K h hb
  rcases DataW.trod_slice ht h with ⟨rfl, rfl⟩ | ⟨a, len, cap, elems, rest, n, rfl, rfl, rfl, h1, h2, h3, h4, h5, _, _⟩
  · refine ⟨_, ⟨[], by simp, by simp, rfl⟩, repL_one ?_⟩
    exact .slice [] .no none 0 (fun _ => undef) (by simp) (by simp) trivial (fun _ _ e => nomatch e) (fun k hk => by simp [flat] at hk) (fun k hk => by simp [flat] at hk)
  · have hbe : BL (elems.map (·.1)) ≤ lenMax := by
      have := K.sl (elems.map (·.1)) (rest.map (·.1))
      simp only at hb
      omega
    have hlen : len ≤ lenMax := by
      have := K.len (elems.map (·.1))
      simp only [List.length_map] at this
      omega
    -- each element
    have key : ∀ i, ∃ es vs, i < len → R es ∧ RepL w (own [] []) [] [] es vs ∧ vs.length = sz ∧ ∀ j, j < sz → w.cell? ((a.add (i * sz)).add j) = vs[j]? := by
      intro i
      by_cases hi : i < len
      · have h6 := h5 i hi
        rw [List.getElem?_eq_getElem (by omega)] at h6
        rw [hc] at h6
        obtain ⟨vs, g1, g2⟩ := Option.bind_eq_some_iff.1 h6
        obtain ⟨_, g3, g4⟩ := World.cells?_some g1
        have hB : B (elems[i]'(by omega)).1 ≤ lenMax := Nat.le_trans (K.mem (List.mem_map.2 ⟨_, List.getElem_mem (by omega), rfl⟩)) hbe
        obtain ⟨es, r1, r2⟩ := hR H enc w base sp held n vs _ B BL K g2 hB
        exact ⟨es, vs, fun _ => ⟨r1, r2, g3, g4⟩⟩
      · exact ⟨[], [], fun h => absurd h hi⟩
    let es : Nat → List D := fun i => (key i).choose
    let vs : Nat → List Value := fun i => (key i).choose_spec.choose
    have hk : ∀ i, i < len → R (es i) ∧ RepL w (own [] []) [] [] (es i) (vs i) ∧ (vs i).length = sz ∧ ∀ j, j < sz → w.cell? ((a.add (i * sz)).add j) = (vs i)[j]? := fun i => (key i).choose_spec.choose_spec
    let ess := (List.range len).map es
    have hess : ∀ x, x ∈ ess → ∃ i, i < len ∧ x = es i := fun x hx => by
      obtain ⟨i, hi, rfl⟩ := List.mem_map.1 hx
      exact ⟨i, by simpa using hi, rfl⟩
    have hel : ∀ i, i < len → (es i).length = sz := fun i hi => by
      have := (hk i hi).2.1.1
      have := (hk i hi).2.2.1
      omega
    have hfl : flat (ess.map (mkE ag)) = ess.flatten := flat_ess (sz := sz) fun x hx => by
      obtain ⟨i, hi, rfl⟩ := hess x hx
      exact ⟨hel i hi, fun e => hag e _ (hk i hi).1⟩
    have hall : ∀ x, x ∈ ess → x.length = sz := fun x hx => by
      obtain ⟨i, hi, rfl⟩ := hess x hx
      exact hel i hi
    have hflen : ess.flatten.length = len * sz := by
      have : ∀ (l : List (List D)), (∀ x, x ∈ l → x.length = sz) → l.flatten.length = l.length * sz := by
        intro l
        induction l with
        | nil => simp
        | cons y l ih =>
          intro hy
          rw [List.flatten_cons, List.length_append, ih (fun x hx => hy x (List.mem_cons_of_mem _ hx)), hy y List.mem_cons_self, List.length_cons, Nat.succ_mul, Nat.add_comm]
      rw [this ess hall]
      simp [ess]
    refine ⟨_, ⟨ess, fun x hx => ?_, by simpa [ess] using hlen, rfl⟩, repL_one ?_⟩
    · obtain ⟨i, hi, rfl⟩ := hess x hx
      exact (hk i hi).1
    · have hlen' : (ess.map (mkE ag)).length = len := by simp [ess]
      have hres : Rep w (own [] []) [] [] (.slice (ess.map (mkE ag)) .no) (.slice (some a) (ess.map (mkE ag)).length cap) := by
        refine .slice _ .no (some a) cap (fun k => (vs (k / sz)).getD (k % sz) undef) (by rw [hlen']; exact hlen) (by rw [hlen']; exact h2) trivial (fun _ _ e => nomatch e) (fun k hk' => ?_) (fun k hk' => ?_)
        · rw [hfl, hflen] at hk'
          have hi : k / sz < len := Nat.div_lt_of_lt_mul (by rw [Nat.mul_comm]; exact hk')
          have hj : k % sz < sz := Nat.mod_lt _ hs
          obtain ⟨_, _, q3, q4⟩ := hk _ hi
          have q5 := q4 _ hj
          have hspot : a.spot = none := by
            have hp : 0 < len := Nat.lt_of_le_of_lt (Nat.zero_le _) hi
            have h0 := (hk 0 hp).2.2.2 0 hs
            rw [List.getElem?_eq_getElem (by rw [(hk 0 hp).2.2.1]; exact hs)] at h0
            have e0 : (a.add (0 * sz)).add 0 = a := by simp [Addr.add]
            rw [e0] at h0
            unfold World.cell? at h0
            split at h0
            · split at h0
              · cases h0
              · rename_i hsp
                cases hh : a.spot with
                | none => rfl
                | some y => rw [hh] at hsp; simp at hsp
            · cases h0
          obtain ⟨b, o, rfl⟩ : ∃ b o, a = ⟨b, o, none⟩ := ⟨a.block, a.off, by cases a; simp only at hspot; subst hspot; rfl⟩
          refine ⟨b, o, rfl, own_nil _ _, ?_⟩
          have hadd : ((⟨b, o, none⟩ : Addr).add (k / sz * sz)).add (k % sz) = ⟨b, o + k, none⟩ := by
            have hm : k / sz * sz + k % sz = k := Nat.div_add_mod' k sz
            unfold Addr.add
            by_cases c1 : k / sz * sz = 0 <;> by_cases c2 : k % sz = 0 <;> simp only [c1, c2, if_true, if_false, Addr.mk.injEq, and_true, true_and] <;> omega
          rw [hadd] at q5
          have hj' : k % sz < (vs (k / sz)).length := by rw [q3]; exact hj
          rw [q5, List.getElem?_eq_getElem hj', List.getD_eq_getElem?_getD, List.getElem?_eq_getElem hj']
          rfl
        · have hk2 := hk'
          rw [hfl, hflen] at hk2
          have hi : k / sz < len := Nat.div_lt_of_lt_mul (by rw [Nat.mul_comm]; exact hk2)
          have hj : k % sz < sz := Nat.mod_lt _ hs
          obtain ⟨_, q2, q3, q4⟩ := hk _ hi
          have he : ∀ (l : List D) (hl : k < l.length), l = ess.flatten → l[k] = (es (k / sz))[k % sz]'(by rw [hel _ hi]; exact hj) := by
            intro l hl e
            subst e
            have := flatten_get hs hall (k := k)
            rw [List.getElem?_eq_getElem hl] at this
            simp only [ess, List.getElem?_map, List.getElem?_range hi, Option.map_some, Option.bind_some] at this
            rw [List.getElem?_eq_getElem (by rw [hel _ hi]; exact hj)] at this
            exact Option.some.inj this
          have hj' : k % sz < (vs (k / sz)).length := by rw [q3]; exact hj
          rw [he _ hk' hfl]
          rw [List.getD_eq_getElem?_getD, List.getElem?_eq_getElem hj']
          exact q2.2 _ _ _
      rw [hlen'] at hres
      exact hres

/-- The fields stand one behind the other. -/
def laid (P : Program) : List Field → Nat → Bool
  | [], _ => true
  | f :: fs, o => f.offset == o && laid P fs (o + P.cellsOf f.type)
def total (P : Program) : List Field → Nat
  | [] => 0
  | f :: fs => P.cellsOf f.type + total P fs

def AllT (P : Program) : List Field → List (List D → Prop) → Prop
  | [], [] => True
  | f :: fs, R :: Rs => IsT P f.type R ∧ AllT P fs Rs
  | _, _ => False

theorem isT_struct {fs : Array Field} {Rs : List (List D → Prop)} (ht : P.underlying t = some (.struct fs)) (hl : laid P fs.toList 0 = true) (hn : total P fs.toList = P.cellsOf t) (hR : AllT P fs.toList Rs) : IsT P t (RCat Rs) := by
  intro H enc w base sp held fuel cs x B BL K h hb
  obtain ⟨xs, n, rfl, rfl, h1, h2, h3⟩ := DataW.trod_struct ht h
  have hbe : BL (xs.map (·.1)) ≤ lenMax := by
    have := K.ag (xs.map (·.1))
    simp only at hb
    omega
  have gen : ∀ (l : List Field) (Rs : List (List D → Prop)) (o : Nat), laid P l o = true → AllT P l Rs → (∀ f, f ∈ l → ∃ x, x ∈ xs ∧ DataW.trod enc P w base sp held n f.type ((cs.drop f.offset).take (P.cellsOf f.type)) = some x) →
      o + total P l = cs.length → ∃ ds, RCat Rs ds ∧ RepL w (own [] []) [] [] ds (cs.drop o) := by
    intro l
    induction l with
    | nil =>
      intro Rs o _ hA _ ho
      cases Rs with
      | cons => exact hA.elim
      | nil =>
        simp only [total] at ho
        refine ⟨[], rfl, ?_⟩
        rw [List.drop_eq_nil_of_le (by omega)]
        exact .nil
    | cons f l ih =>
      intro Rs o hlay hA hx ho
      cases Rs with
      | nil => exact hA.elim
      | cons R Rs =>
        simp only [laid, Bool.and_eq_true, beq_iff_eq] at hlay
        obtain ⟨e1, hlay⟩ := hlay
        simp only [total] at ho
        obtain ⟨x, hxm, hx0⟩ := hx f List.mem_cons_self
        have hB : B x.1 ≤ lenMax := Nat.le_trans (K.mem (List.mem_map.2 ⟨_, hxm, rfl⟩)) hbe
        obtain ⟨a, r1, r2⟩ := hA.1 H enc w base sp held n _ _ B BL K hx0 hB
        obtain ⟨b, r3, r4⟩ := ih Rs _ hlay hA.2 (fun g hg => hx g (List.mem_cons_of_mem _ hg)) (by omega)
        refine ⟨a ++ b, ⟨a, b, r1, r3, rfl⟩, ?_⟩
        have := RepL.append r2 r4
        rw [e1, ← List.drop_drop, List.take_append_drop] at this
        exact this
  have := gen fs.toList Rs 0 hl hR (fun f hf => by
    obtain ⟨i, hi, rfl⟩ := List.mem_iff_getElem.1 hf
    have hi' : i < fs.size := by simpa using hi
    have hx : i < xs.length := by omega
    have := h3 i _ (Array.getElem?_eq_getElem hi')
    rw [List.getElem?_eq_getElem hx] at this
    exact ⟨_, List.getElem_mem hx, by simpa using this⟩) (by rw [hn, h1]; omega)
  simpa using this

/-- An argument of a type with one cell. -/
theorem arg_one {H : Type} {enc : TypeId × Value → H} {w : World} {base b0 : Nat} {sp : Nat → Bool} {held : Bool} {r : Reach} {v : Value} {d : DataW H} {ps : List MemPlace} {R : List D → Prop} {B : DataW H → Nat} {BL : List (DataW H) → Nat} (K : Bulk B BL)
    (hR : IsT P t R) (h : DataW.Trod enc P w base sp held t v d ps) (hb : B d ≤ lenMax) (hv : v.cells = #[v]) : ∃ ds, R ds ∧ RepL w (own [] []) [] [] ds [v] := by
  obtain ⟨fuel, hf⟩ := h
  rw [hv] at hf
  exact hR H enc w base sp held fuel _ _ B BL K hf hb
/-- A struct. -/
theorem arg_struct {H : Type} {enc : TypeId × Value → H} {w : World} {base b0 : Nat} {sp : Nat → Bool} {held : Bool} {r : Reach} {v : Value} {d : DataW H} {ps : List MemPlace} {R : List D → Prop} {B : DataW H → Nat} {BL : List (DataW H) → Nat} (K : Bulk B BL)
    {fs : Array Field} (ht : P.underlying t = some (.struct fs)) (hR : IsT P t R) (hval : Value.okWide P w r b0 t v) (h : DataW.Trod enc P w base sp held t v d ps) (hb : B d ≤ lenMax) : ∃ ds, R ds ∧ Rep w (own [] []) [] [] (.agg ds) v := by
  obtain ⟨vs, rfl, _⟩ := okWide_struct ht hval
  obtain ⟨fuel, hf⟩ := h
  obtain ⟨ds, h1, h2⟩ := hR H enc w base sp held fuel _ _ B BL K hf hb
  refine ⟨ds, h1, ?_⟩
  have := Rep.agg ds vs.toList h2.1 h2.2
  simpa using this
theorem arg_slice {H : Type} {enc : TypeId × Value → H} {w : World} {base b0 : Nat} {sp : Nat → Bool} {held : Bool} {r : Reach} {v : Value} {d : DataW H} {ps : List MemPlace} {R : List D → Prop} {B : DataW H → Nat} {BL : List (DataW H) → Nat} (K : Bulk B BL)
    {e : TypeId} (ht : P.underlying t = some (.slice e)) (hR : IsT P t R) (hval : Value.okWide P w r b0 t v) (h : DataW.Trod enc P w base sp held t v d ps) (hb : B d ≤ lenMax) : ∃ ds, R ds ∧ RepL w (own [] []) [] [] ds [v] := by
  obtain ⟨a, len, cap, rfl⟩ := okWide_slice ht hval
  exact arg_one (b0 := b0) (r := r) K hR h hb rfl
theorem arg_str {H : Type} {enc : TypeId × Value → H} {w : World} {base b0 : Nat} {sp : Nat → Bool} {held : Bool} {r : Reach} {v : Value} {d : DataW H} {ps : List MemPlace} {R : List D → Prop} {B : DataW H → Nat} {BL : List (DataW H) → Nat} (K : Bulk B BL)
    (ht : P.underlying t = some .string) (hR : IsT P t R) (hval : Value.okWide P w r b0 t v) (h : DataW.Trod enc P w base sp held t v d ps) (hb : B d ≤ lenMax) : ∃ ds, R ds ∧ RepL w (own [] []) [] [] ds [v] := by
  obtain ⟨s, rfl⟩ := okWide_string ht hval
  exact arg_one (b0 := b0) (r := r) K hR h hb rfl
theorem arg_int {H : Type} {enc : TypeId × Value → H} {w : World} {base b0 : Nat} {sp : Nat → Bool} {held : Bool} {r : Reach} {v : Value} {d : DataW H} {ps : List MemPlace} {R : List D → Prop} {B : DataW H → Nat} {BL : List (DataW H) → Nat} (K : Bulk B BL)
    {k : IntKind} (ht : P.underlying t = some (.int k)) (hR : IsT P t R) (hval : Value.okWide P w r b0 t v) (h : DataW.Trod enc P w base sp held t v d ps) (hb : B d ≤ lenMax) : ∃ ds, R ds ∧ RepL w (own [] []) [] [] ds [v] := by
  obtain ⟨s, rfl⟩ := okWide_int ht hval
  exact arg_one (b0 := b0) (r := r) K hR h hb rfl

theorem inv_nil [Start] : Inv Start.w0 [] [] := ⟨⟨Nat.le_refl _, fun _ _ => rfl, fun b o h => absurd h (own_nil b o)⟩, rfl, fun r b h => by simp at h, fun r cs h => by simp at h, fun r r' b h => by simp at h⟩

/-- What a walk from an empty heap leaves of the memory. -/
theorem Step.below {w w' : World} {σ' : Sg} {h' : Hp} (H : Step w [] [] w' σ' h') : Go.RowKit.Below w.heap.size w w' :=
  ⟨H.os, H.tape, H.output, H.size, fun k hk => H.block k hk (own_nil k)⟩
end
end Go.Av

/- A law's statement out of its contract: arguments read, true handed back, nothing turned. -/
namespace Go.Av
set_option linter.unusedSectionVars false
open Go.WideShapes Go.RowKit Go.WideElems Go.ChangeShapes
set_option linter.unusedVariables false

/-- Every value of type t that a statement speaks of is one that R tells of. -/
def IsA (P : Program) (t : TypeId) (R : D → Prop) : Prop :=
  ∀ (H : Type) (enc : TypeId × Value → H) (w : World) (r : Reach) (b0 base : Nat) (sp : Nat → Bool) (held : Bool) (v : Value) (d : DataW H) (ps : List MemPlace) (B : DataW H → Nat) (BL : List (DataW H) → Nat),
    Bulk B BL → Value.okWide P w r b0 t v → DataW.Trod enc P w base sp held t v d ps → B d ≤ lenMax → ∃ a, R a ∧ Rep w (own [] []) [] [] a v

section
variable {P : Program} {t : TypeId}

theorem isA_struct {R : List D → Prop} {S : D → Prop} {fs : Array Field} (ht : P.underlying t = some (.struct fs)) (hR : IsT P t R) (hS : ∀ ds, R ds → S (.agg ds)) : IsA P t S := by
  intro H enc w r b0 base sp held v d ps B BL K hval h hb
  obtain ⟨ds, h1, h2⟩ := arg_struct K ht hR hval h hb
  exact ⟨_, hS ds h1, h2⟩
theorem isA_one {R : List D → Prop} {S : D → Prop} (hv : ∀ (w : World) (r : Reach) (b0 : Nat) (v : Value), Value.okWide P w r b0 t v → v.cells = #[v]) (hR : IsT P t R) (hS : ∀ ds, R ds → ∃ d, ds = [d] ∧ S d) : IsA P t S := by
  intro H enc w r b0 base sp held v d ps B BL K hval h hb
  obtain ⟨ds, h1, h2⟩ := arg_one (b0 := b0) (r := r) K hR h hb (hv w r b0 v hval)
  obtain ⟨a, rfl, hs⟩ := hS ds h1
  exact ⟨a, hs, by simpa using h2.2 0 (by simp) (by simp)⟩
theorem isA_slice {R : List D → Prop} {S : D → Prop} {e : TypeId} (ht : P.underlying t = some (.slice e)) (hR : IsT P t R) (hS : ∀ ds, R ds → ∃ d, ds = [d] ∧ S d) : IsA P t S :=
  isA_one (fun w r b0 v hval => by obtain ⟨a, len, cap, rfl⟩ := okWide_slice ht hval; rfl) hR hS
theorem isA_str {R : List D → Prop} {S : D → Prop} (ht : P.underlying t = some .string) (hR : IsT P t R) (hS : ∀ ds, R ds → ∃ d, ds = [d] ∧ S d) : IsA P t S :=
  isA_one (fun w r b0 v hval => by obtain ⟨a, rfl⟩ := okWide_string ht hval; rfl) hR hS
theorem isA_int {R : List D → Prop} {S : D → Prop} {k : IntKind} (ht : P.underlying t = some (.int k)) (hR : IsT P t R) (hS : ∀ ds, R ds → ∃ d, ds = [d] ∧ S d) : IsA P t S :=
  isA_one (fun w r b0 v hval => by obtain ⟨a, rfl⟩ := okWide_int ht hval; rfl) hR hS
theorem isA_bool {R : List D → Prop} {S : D → Prop} (ht : P.underlying t = some .bool) (hR : IsT P t R) (hS : ∀ ds, R ds → ∃ d, ds = [d] ∧ S d) : IsA P t S :=
  isA_one (fun w r b0 v hval => by obtain ⟨a, rfl⟩ := okWide_bool ht hval; rfl) hR hS

def AllA (P : Program) : List TypeId → List (D → Prop) → Prop
  | [], [] => True
  | t :: ts, R :: Rs => IsA P t R ∧ AllA P ts Rs
  | _, _ => False
def ArgsR : List (D → Prop) → List D → Prop
  | [], [] => True
  | R :: Rs, d :: ds => R d ∧ ArgsR Rs ds
  | _, _ => False

theorem args_read {H : Type} {enc : TypeId × Value → H} {w : World} {r : Reach} {b0 base : Nat} {sp : Nat → Bool} {held : Bool} {B : DataW H → Nat} {BL : List (DataW H) → Nat} (K : Bulk B BL) :
    ∀ {ts : List TypeId} {Rs : List (D → Prop)} {vs : List Value} {ds : List (DataW H)} {ps : List MemPlace}, AllA P ts Rs → DataW.TrodAll enc P w base sp held ts vs ds ps →
      (∀ (j : Nat) t v, ts[j]? = some t → vs[j]? = some v → Value.okWide P w r b0 t v) → (∀ d, d ∈ ds → B d ≤ lenMax) → ∃ as, ArgsR Rs as ∧ RepL w (own [] []) [] [] as vs
  | [], [], vs, ds, ps, _, h, _, _ => by
    obtain ⟨rfl, _, _⟩ := trodAll_nil h
    exact ⟨[], trivial, .nil⟩
  | [], _ :: _, _, _, _, hA, _, _, _ => hA.elim
  | _ :: _, [], _, _, _, hA, _, _, _ => hA.elim
  | t :: ts, R :: Rs, vs, ds, ps, hA, h, hval, hb => by
    obtain ⟨v, vs', d, ds', p, q, rfl, rfl, rfl, h0, h1⟩ := trodAll_cons h
    obtain ⟨a, a1, a2⟩ := hA.1 H enc w r b0 base sp held v d p B BL K (hval 0 t v rfl rfl) h0 (hb d List.mem_cons_self)
    obtain ⟨as, b1, b2⟩ := args_read K hA.2 h1 (fun j t v e1 e2 => hval (j + 1) t v e1 e2) (fun d hd => hb d (List.mem_cons_of_mem _ hd))
    exact ⟨a :: as, ⟨a1, b1⟩, .cons a2 b2⟩

def readable (P : Program) (ts : List TypeId) : Bool := ts.all fun t => P.readableRec t && decide (t < P.types.size)

theorem reread {H : Type} {enc : TypeId × Value → H} {W W' : World} (hl : laidOutB P = true) (hb : Below W.heap.size W W') :
    ∀ {ts : List TypeId} {vs : List Value} {ds : List (DataW H)} {ps : List MemPlace}, readable P ts = true → DataW.TrodAll enc P W 0 (fun _ => true) true ts vs ds ps → (∀ x, x ∈ ps → x.block < W.heap.size) →
      DataW.TrodAll enc P W' 0 (fun b => decide (b < W.heap.size)) true ts vs ds ps
  | [], vs, ds, ps, _, h, _ => by
    obtain ⟨rfl, rfl, rfl⟩ := trodAll_nil h
    exact rfl
  | t :: ts, vs, ds, ps, hr, h, hlt => by
    obtain ⟨v, vs', d, ds', p, q, rfl, rfl, rfl, h0, h1⟩ := trodAll_cons h
    simp only [readable, List.all_cons, Bool.and_eq_true, decide_eq_true_eq] at hr
    exact ⟨p, q, h0.elim fun _ _ => Below.trod hl hr.1.1 hr.1.2 h0 hb (fun x hx => hlt x (List.mem_append_left _ hx)), reread hl hb (by simpa [readable] using hr.2) h1 (fun x hx => hlt x (List.mem_append_right _ hx)), rfl⟩

/-- FROM A CONTRACT TO THE ROW'S POST. -/
theorem law_post {f : FuncId} {fn : Func} {H : Type} {enc : TypeId × Value → H} {s : ChangeSpec} {W : World} {base : Nat} {args : Array Value} {ds gs : List (DataW H)} {before : List MemPlace} {Rs : List (D → Prop)} {tb : TypeId} {B : DataW H → Nat} {BL : List (DataW H) → Nat}
    (K : Bulk B BL) (hk : BL (ds ++ gs) ≤ lenMax) (hl : laidOutB P = true) (hr : readable P fn.params.toList = true) (hv : varsRowed P s.vars = true) (hres : fn.resultTypes = #[tb]) (hb : P.underlying tb = some .bool) (hA : AllA P fn.params.toList Rs)
    (hval : ∀ (j : Nat) t v, fn.params[j]? = some t → args[j]? = some v → Value.okWide P W .any base t v)
    (hW : DataW.Whole enc P fn.params.toList s.vars false W args.toList ds gs before) (hfn : s.fn H (ds ++ gs) = { results := [.lit (.bool true)], args := ds, vars := gs })
    (hg : ∀ S : Start, S.w0 = W → ∀ as, ArgsR Rs as → Gives P f as [] (.bool true)) :
    Calls P f args W fun e W' => ∃ v, e = .returned v ∧ s.post enc P fn false true false false W args v W' := by
  have hlt := hW.lt
  have hW' := hW
  obtain ⟨p, q, h1, h2, rfl, h3, h4⟩ := hW
  obtain ⟨as, a1, a2⟩ := args_read K hA h1 (fun j t v e1 e2 => hval j t v (by simpa using e1) (by simpa using e2)) (fun d hd => Nat.le_trans (K.mem (List.mem_append_left _ hd)) hk)
  letI S : Start := ⟨W⟩
  have hc := (hg S rfl as a1).2 W [] args.toList inv_nil a2
  rw [Array.toArray_toList] at hc
  refine hc.mono fun e W' ⟨v, he, d, h', σ', ⟨hd, hh⟩, hi, hrep, hst⟩ => ⟨v, he, ?_⟩
  subst hd hh
  obtain rfl : v = .bool true := by cases hrep; rfl
  have hbel := hst.below
  refine ⟨ds, gs, p ++ q, [], p, q, hW', ?_, ?_, ?_, hbel.frame _, fun e => nomatch e⟩
  · rw [hfn, hres]
    exact ⟨[], [], shut_bool hb true, rfl, rfl⟩
  · rw [hfn]
    exact reread hl hbel hr h1 (fun x hx => hlt x (List.mem_append_left _ hx))
  · rw [hfn]
    exact hbel.trodVars hl hv h2
end
end Go.Av

/- A loop that changes one object that stood ahead of it. -/
namespace Go.Av
set_option linter.unusedSectionVars false
variable [Start]

/-- The slots' values stand in the state's frame, and are closed. -/
def SlotsOk (n : Nat) (fr : Fr) (l : List (Nat × D)) : Prop := ∀ p, p ∈ l → Wk (fr p.1) p.2 ∧ Cl n p.2

def LoopInvS {α : Type} (h : Hp) (r : Nat) (L : α → List (Nat × D)) (c : α → List D) (I : α → Prop) (μ : α → Nat) (m : Nat) (st' : St) : Prop := ∃ x, I x ∧ μ x = m ∧ st' = ⟨frL (L x), h.set r (.row (c x))⟩

omit [Start] in
theorem weakS {h : Hp} {r : Nat} {cs : List D} {l : List (Nat × D)} {st st'' : St} (hst : st.h.length = h.length) (hold : ∀ q : Nat, q ≠ r → st.h[q]? = h[q]?) (he : st''.h = h.set r (.row cs)) (hc : ∀ d, d ∈ cs → Cl h.length d) (hs : SlotsOk h.length st''.fr l) : Weak st st'' ⟨frL l, h.set r (.row cs)⟩ := by
  refine ⟨by simp [hst], by simp [he], by simp only [he]; exact List.take_of_length_le (by simp), fun q x hx => ?_, fun t => .inr ?_⟩
  · simp only [List.length_set]
    by_cases hq : q = r
    · subst hq
      have hx' : (h.set q (.row cs))[q]? = some x := hx
      rw [List.getElem?_set_self'] at hx'
      cases e : h[q]? with
      | none => rw [e] at hx'; cases hx'
      | some y =>
        rw [e] at hx'
        cases hx'
        exact .inr hc
    · have hx' : (h.set r (.row cs))[q]? = some x := hx
      rw [List.getElem?_set_ne (fun e => hq e.symm)] at hx'
      exact .inl (by rw [hold q hq]; exact hx')
  · simp only [frL, List.length_set]
    cases hl : l.lookup t with
    | none => exact ⟨.junk _, .junk⟩
    | some d => exact hs (t, d) (lookup_mem hl)

variable {P : Program} {mu : List Nat} {fr : Fr} {h : Hp}

omit [Start] in
theorem round_mkS {n0 : Nat} {α : Type} {r : Nat} {L : α → List (Nat × D)} {c : α → List D} {I : α → Prop} {μ : α → Nat} {m : Nat} {cs : List D} {st'' : St} (y : α) (h1 : I y) (h2 : μ y < m) (he : st''.h = h.set r (.row (c y))) (hc : ∀ d, d ∈ c y → Cl h.length d) (hs : SlotsOk h.length st''.fr (L y)) :
    RoundOk n0 (LoopInvS h r L c I μ) m ⟨fr, h.set r (.row cs)⟩ st'' :=
  ⟨μ y, ⟨frL (L y), h.set r (.row (c y))⟩, h2, ⟨y, h1, rfl, rfl⟩, .inl (weakS (by simp) (fun q hq => by rw [List.getElem?_set_ne (fun e => hq e.symm)]) he hc hs)⟩

/-- THE LOOP: object r changes round by round. -/
theorem ev_loopS {c0 : Code} {Q : Exit → St → Prop} {α : Type} (r : Nat) (L : α → List (Nat × D)) (c : α → List D) (I : α → Prop) (μ : α → Nat) (x0 : α) (hI : I x0)
    (hr : r < h.length) (h0 : ob h r = .row (c x0)) (hc : ∀ d, d ∈ c x0 → Cl h.length d) (hs : SlotsOk h.length fr (L x0))
    (hround : ∀ x, I x → ev P mu c0 (thenE (RoundOk h.length (LoopInvS h r L c I μ) (μ x) ⟨frL (L x), h.set r (.row (c x))⟩) Q) ⟨frL (L x), h.set r (.row (c x))⟩) : ev P mu (.loop c0) Q ⟨fr, h⟩ := by
  have e : h = h.set r (.row (c x0)) := by
    rw [← h0]
    refine List.ext_getElem? fun q => ?_
    by_cases hq : q = r
    · subst hq
      rw [List.getElem?_set_self hr, List.getElem?_eq_getElem hr, ob, List.getD_eq_getElem?_getD, List.getElem?_eq_getElem hr]
      rfl
    · rw [List.getElem?_set_ne (fun e => hq e.symm)]
  refine ⟨[], [], LoopInvS h r L c I μ, trivial, ⟨μ x0, _, ⟨x0, hI, rfl, rfl⟩, ?_⟩, ?_⟩
  · exact weakS rfl (fun _ _ => rfl) e hc hs
  · rintro m st' ⟨x, hx, rfl, rfl⟩
    exact hround x hx
end Go.Av

/- A loop that changes one object that stood ahead of it, and lays objects of its own. -/
namespace Go.Av
set_option linter.unusedSectionVars false
variable [Start]

def LoopInvT {α : Type} (h : Hp) (r : Nat) (L : α → List (Nat × D)) (c : α → List D) (ls0 : α → Hp) (I : α → Prop) (μ : α → Nat) (m : Nat) (st' : St) : Prop := ∃ x, I x ∧ μ x = m ∧ st' = ⟨frL (L x), h.set r (.row (c x)) ++ ls0 x⟩

/-- The state st'' may be seen as one with these slots and these objects; k objects stood behind h. -/
structure WeakTT (h : Hp) (r k : Nat) (st'' : St) (l : List (Nat × D)) (cs : List D) (ls0 : Hp) : Prop where
  heap : ∃ ls, st''.h = h.set r (.row cs) ++ ls ∧ ls0.length ≤ ls.length ∧ ls.take ls0.length = ls0
  le : k ≤ ls0.length
  ob : ∀ x, x ∈ ls0 → ObCl (h.length + ls0.length) x
  row : ∀ d, d ∈ cs → Cl (h.length + ls0.length) d
  slots : SlotsOk (h.length + ls0.length) st''.fr l

omit [Start] in
theorem WeakTT.weak {h : Hp} {r k : Nat} {cs : List D} {l : List (Nat × D)} {ls0 : Hp} {st st'' : St} (H : WeakTT h r k st'' l cs ls0) (hst : st.h.length = h.length + k) (hold : ∀ q : Nat, q < h.length → q ≠ r → st.h[q]? = h[q]?) : Weak st st'' ⟨frL l, h.set r (.row cs) ++ ls0⟩ := by
  obtain ⟨⟨ls, e1, e2, e3⟩, hk, ho, hc, hs⟩ := H
  have hl : (h.set r (.row cs) ++ ls0).length = h.length + ls0.length := by simp
  refine ⟨by simp only [hl, hst]; omega, by simp only [hl, e1, List.length_append, List.length_set]; omega, ?_, fun q x hx => ?_, fun t => .inr ?_⟩
  · simp only [e1, hl, List.take_append, List.length_set]
    rw [List.take_of_length_le (by simp), show h.length + ls0.length - h.length = ls0.length by omega, e3]
  · simp only [hl]
    have hx' : (h.set r (.row cs) ++ ls0)[q]? = some x := hx
    by_cases hq : q < h.length
    · rw [List.getElem?_append_left (by simpa using hq)] at hx'
      by_cases hr : q = r
      · subst hr
        rw [List.getElem?_set_self hq] at hx'
        cases hx'
        exact .inr hc
      · rw [List.getElem?_set_ne (fun e => hr e.symm)] at hx'
        exact .inl (by rw [hold q hq hr]; exact hx')
    · rw [List.getElem?_append_right (by simp; omega)] at hx'
      exact .inr (ho x (List.mem_of_getElem? hx'))
  · simp only [frL, hl]
    cases hq : l.lookup t with
    | none => exact ⟨.junk _, .junk⟩
    | some d => exact hs (t, d) (lookup_mem hq)

variable {P : Program} {mu : List Nat} {fr : Fr} {h : Hp}

omit [Start] in
theorem round_mkT {n0 : Nat} {α : Type} {r : Nat} {L : α → List (Nat × D)} {c : α → List D} {ls0 : α → Hp} {I : α → Prop} {μ : α → Nat} {m : Nat} {cs : List D} {ls : Hp} {st'' : St} (y : α) (h1 : I y) (h2 : μ y < m) (h3 : WeakTT h r ls.length st'' (L y) (c y) (ls0 y)) :
    RoundOk n0 (LoopInvT h r L c ls0 I μ) m ⟨fr, h.set r (.row cs) ++ ls⟩ st'' :=
  ⟨μ y, ⟨frL (L y), h.set r (.row (c y)) ++ ls0 y⟩, h2, ⟨y, h1, rfl, rfl⟩, .inl (h3.weak (by simp) (fun q hq hr => by
    show (h.set r (.row cs) ++ ls)[q]? = h[q]?
    rw [List.getElem?_append_left (by simpa using hq), List.getElem?_set_ne (fun e => hr e.symm)]))⟩

/-- THE LOOP: object r changes round by round, and so do the objects behind h. -/
theorem ev_loopT {c0 : Code} {Q : Exit → St → Prop} {α : Type} {cs : List D} {ls : Hp} (r : Nat) (L : α → List (Nat × D)) (c : α → List D) (ls0 : α → Hp) (I : α → Prop) (μ : α → Nat) (x0 : α) (hI : I x0)
    (hW : WeakTT h r ls.length ⟨fr, h.set r (.row cs) ++ ls⟩ (L x0) (c x0) (ls0 x0))
    (hround : ∀ x, I x → ev P mu c0 (thenE (RoundOk (h.set r (.row cs) ++ ls).length (LoopInvT h r L c ls0 I μ) (μ x) ⟨frL (L x), h.set r (.row (c x)) ++ ls0 x⟩) Q) ⟨frL (L x), h.set r (.row (c x)) ++ ls0 x⟩) : ev P mu (.loop c0) Q ⟨fr, h.set r (.row cs) ++ ls⟩ := by
  refine ⟨[], [], LoopInvT h r L c ls0 I μ, trivial, ⟨μ x0, _, ⟨x0, hI, rfl, rfl⟩, ?_⟩, ?_⟩
  · exact hW.weak (by simp [tokSts, vtSts]) (fun q hq hr => by
      show (h.set r (.row cs) ++ ls)[q]? = h[q]?
      rw [List.getElem?_append_left (by simpa using hq), List.getElem?_set_ne (fun e => hr e.symm)])
  · rintro m st' ⟨x, hx, rfl, rfl⟩
    exact hround x hx
end Go.Av

/- A call that leaves rows which nobody else names: what it hands back, seen as slices that are no more written. -/
namespace Go.Av
set_option linter.unusedSectionVars false
variable [Start]

theorem Meets.freeze {P : Program} {f : FuncId} {args : List D} {h rows : Hp} {d d' : D} (H : Meets P f args h fun x h' => x = d ∧ h' = h ++ rows) (F : FW h.length (h ++ rows) d d') (C : Cl h.length d') : Gives P f args h d' := by
  refine ⟨H.1, fun w σ vs hi hr => (H.2 w σ vs hi hr).mono ?_⟩
  rintro e w' ⟨v, he, x, h', σ', ⟨rfl, rfl⟩, hi', hd, hst⟩
  obtain ⟨d0, k0, k2⟩ := F
  have htk : (h ++ rows).take h.length = h := by simp
  refine ⟨v, he, d', h, σ'.take h.length, ⟨rfl, rfl⟩, ?_, ?_, ?_⟩
  · have := hi'.take (n := h.length) (by simp) (fun r x hr hx => by
      rw [List.getElem?_append_left hr] at hx
      exact hi.cl hx)
    rw [htk] at this
    exact this
  · have hr0 := (k0.rep hi' (ow' := own (σ'.take h.length) ((h ++ rows).take h.length)) (fun b o => own_take) (fun r b cs hr hrow hb o ho => by
      obtain ⟨k, g1, g2⟩ := ho
      rw [List.getElem?_take] at g1 g2
      split at g1
      · rename_i hk
        rw [if_pos hk] at g2
        have hd : (h ++ rows)[k]? ≠ some .dead := by rcases g2 with ⟨_, e⟩ | ⟨_, e, _⟩ <;> rw [e] <;> simp
        have := hi'.inj k r b g1 hb hd (by rw [hrow]; simp)
        omega
      · cases g1) hd).wk k2
    have := hr0.move (σ' := σ'.take h.length) (h' := (h ++ rows).take h.length) (fun _ _ q => q) C (by simp) (fun r hr => ⟨getElem?_take_lt hr, fun hb k => by rw [getElem?_take_lt hr]; exact hb k, fun k => by rw [getElem?_take_lt hr]; exact id⟩)
    rw [htk] at this
    exact this
  · have := hst.take (n := h.length) (Nat.le_refl _) (by simp)
    rw [htk] at this
    exact this

/-- The same where the call turns objects that were there. -/
theorem Meets.freezeAt {P : Program} {f : FuncId} {args : List D} {h hh rows : Hp} {d d' : D} (hl : hh.length = h.length) (hcl : ∀ (r : Nat) x, hh[r]? = some x → h[r]? = some x ∨ ObCl hh.length x)
    (H : Meets P f args h fun x h' => x = d ∧ h' = hh ++ rows) (F : FW hh.length (hh ++ rows) d d') (C : Cl hh.length d') : Meets P f args h fun x h' => x = d' ∧ h' = hh := by
  refine ⟨H.1, fun w σ vs hi hr => (H.2 w σ vs hi hr).mono ?_⟩
  rintro e w' ⟨v, he, x, h', σ', ⟨rfl, rfl⟩, hi', hd, hst⟩
  obtain ⟨d0, k0, k2⟩ := F
  have htk : (hh ++ rows).take hh.length = hh := by simp
  refine ⟨v, he, d', hh, σ'.take hh.length, ⟨rfl, rfl⟩, ?_, ?_, ?_⟩
  · have := hi'.take (n := hh.length) (by simp) (fun r x hr hx => by
      rw [List.getElem?_append_left hr] at hx
      rcases hcl r x hx with q | q
      · rw [hl]; exact hi.cl q
      · exact q)
    rw [htk] at this
    exact this
  · have hr0 := (k0.rep hi' (ow' := own (σ'.take hh.length) ((hh ++ rows).take hh.length)) (fun b o => own_take) (fun r b cs hr hrow hb o ho => by
      obtain ⟨k, g1, g2⟩ := ho
      rw [List.getElem?_take] at g1 g2
      split at g1
      · rename_i hk
        rw [if_pos hk] at g2
        have hd : (hh ++ rows)[k]? ≠ some .dead := by rcases g2 with ⟨_, e⟩ | ⟨_, e, _⟩ <;> rw [e] <;> simp
        have := hi'.inj k r b g1 hb hd (by rw [hrow]; simp)
        omega
      · cases g1) hd).wk k2
    have := hr0.move (σ' := σ'.take hh.length) (h' := (hh ++ rows).take hh.length) (fun _ _ q => q) C (by simp) (fun r hr => ⟨getElem?_take_lt hr, fun hb k => by rw [getElem?_take_lt hr]; exact hb k, fun k => by rw [getElem?_take_lt hr]; exact id⟩)
    rw [htk] at this
    exact this
  · have := hst.take (n := hh.length) (by omega) (by simp)
    rw [htk] at this
    exact this
theorem ev_loopV0 {P : Program} {mu : List Nat} {fr : Fr} {h : Hp} {Q : Exit → St → Prop} {c : Code} {α : Type} (vts : List (Nat × Bool × Nat)) (L : α → List (Nat × D)) (ls0 : α → Hp) (I : α → Prop) (μ : α → Nat) (x0 : α)
    (hI : I x0) (hW : ∃ lsh, (vtSts ⟨fr, h⟩ vts).h = h ++ lsh ∧ WeakTo h lsh.length (vtSts ⟨fr, h⟩ vts) (L x0) (ls0 x0))
    (hround : ∀ x, I x → ev P mu c (thenE (RoundOk h.length (LoopInv h L ls0 I μ) (μ x) ⟨frL (L x), h ++ ls0 x⟩) Q) ⟨frL (L x), h ++ ls0 x⟩) : ev P mu (.loop c) Q ⟨fr, h⟩ := by
  have e := ev_loopV (h := h) (ls := []) (P := P) (mu := mu) (fr := fr) (c := c) (Q := Q) vts L ls0 I μ x0 hI
  simp only [List.append_nil] at e
  exact e hW hround

omit [Start] in
/-- A row of plain cells does not name objects. -/
theorem renOb_map {α : Type} (f : α → D) (hf : ∀ x n k, Ren n k (f x) (f x)) (xs : List α) (n k : Nat) : RenOb n k (.row (xs.map f)) (.row (xs.map f)) :=
  .row _ _ rfl (fun j h1 h2 => by simp only [List.getElem_map]; exact hf _ _ _)
omit [Start] in
theorem strs_ren (xs : List (List UInt8)) (n k : Nat) : RenOb n k (.row (xs.map D.str)) (.row (xs.map D.str)) := renOb_map _ (fun _ _ _ => .str _) xs n k
omit [Start] in
theorem strs_cl (xs : List (List UInt8)) (n : Nat) : ∀ d, d ∈ xs.map D.str → Cl n d := fun d hd => by
  obtain ⟨s, _, rfl⟩ := List.mem_map.1 hd
  exact .str _
omit [Start] in
theorem strs_c1 (xs : List (List UInt8)) : ∀ d, d ∈ xs.map D.str → cell1 d := fun d hd => by
  obtain ⟨s, _, rfl⟩ := List.mem_map.1 hd
  trivial
omit [Start] in
theorem flat_strs (xs : List (List UInt8)) : flat (xs.map D.str) = xs.map D.str := by
  induction xs with
  | nil => rfl
  | cons x xs ih => rw [List.map_cons, flat_cons, ih]; rfl
omit [Start] in
theorem chunk_strs : ∀ (xs : List (List UInt8)) (n : Nat), n = xs.length → chunk false 1 n (xs.map D.str) = xs.map D.str
  | [], n, h => by subst h; rfl
  | x :: xs, n, h => by
    subst h
    rw [List.length_cons, chunk, List.map_cons]
    simp only [Bool.false_eq_true, if_false, List.headD_cons, List.drop_succ_cons, List.drop_zero]
    rw [chunk_strs xs _ rfl]
omit [Start] in
/-- A row of texts behind a heap, seen as a slice. -/
theorem fw_strs {n : Nat} {h : Hp} {r m cp : Nat} (hn : n ≤ r) {xs : List (List UInt8)} (ho : ob h r = .row (xs.map D.str)) (hm : m = xs.length) : FW n h (.vec r false 1 0 m cp) (.slice (xs.map D.str) .no) := by
  subst hm
  have hp : rowPart h r 1 0 xs.length = xs.map D.str := by
    rw [rowPart, ho]
    simp only [rowOf]
    rw [Nat.zero_mul, List.drop_zero, Nat.mul_one, List.take_of_length_le (by simp)]
  rw [fw_vec, hp]
  refine ⟨⟨hn, by rw [ho]; trivial, by rw [ho]; simp [rowOf], strs_cl xs 0, by omega, fun _ => ⟨rfl, fun d hd => ?_⟩⟩, chunk_strs xs _ rfl⟩
  obtain ⟨s, _, rfl⟩ := List.mem_map.1 hd
  rfl
omit [Start] in
theorem renOb_one {n k : Nat} {x y : Ob} (h : RenOb n k x y) : ∀ j (_h1 : j < [x].length) (_h2 : j < [y].length), RenOb n k ([x][j]) ([y][j]) := by
  intro j h1 h2
  simp only [List.length_cons, List.length_nil] at h1
  obtain rfl : j = 0 := by omega
  exact h
section
variable (n m : Nat)
omit [Start] in
theorem rw_int (k k' : IntKind) (x y : Int) : RW n m (.int k x) (.int k' y) ↔ Wk (.int k x) (.int k' y) :=
  ⟨fun h => by rcases h with ⟨d1, h1, h2⟩ | ⟨h1, _⟩; cases h1; exact h2; exact h1, fun h => .inl ⟨_, .int _ _, h⟩⟩
omit [Start] in
theorem rw_str (x y : List UInt8) : RW n m (.str x) (.str y) ↔ Wk (.str x) (.str y) :=
  ⟨fun h => by rcases h with ⟨d1, h1, h2⟩ | ⟨h1, _⟩; cases h1; exact h2; exact h1, fun h => .inl ⟨_, .str _, h⟩⟩
omit [Start] in
theorem rw_bool (x y : Bool) : RW n m (.bool x) (.bool y) ↔ Wk (.bool x) (.bool y) :=
  ⟨fun h => by rcases h with ⟨d1, h1, h2⟩ | ⟨h1, _⟩; cases h1; exact h2; exact h1, fun h => .inl ⟨_, .bool _, h⟩⟩
omit [Start] in
theorem rw_slice (es es' : List D) (t : Tok) : RW n m (.slice es t) (.slice es' .no) ↔ Wk (.slice es t) (.slice es' .no) := by
  constructor
  · rintro (⟨d1, h1, h2⟩ | ⟨h1, _⟩)
    · cases h1 <;> cases h2 <;> first | exact .tok _ _ | exact .refl _
    · exact h1
  · intro h
    exact .inr ⟨h, .slice _ _ (fun _ _ e => nomatch e)⟩
end
attribute [push_cast] rw_int rw_str rw_bool rw_slice
omit [Start] in
theorem rw_ptr {n k r o : Nat} (hr : r < n) : RW n k (.ptr r o) (.ptr r o) := .inr ⟨.refl _, .ptr _ _ hr⟩
end Go.Av

/- A loop that changes one object that stood ahead of it, and in which rows grow. -/
namespace Go.Av
set_option linter.unusedSectionVars false
variable [Start]
section
variable {P : Program} {mu : List Nat} {fr : Fr} {h : Hp}

theorem inX_mkS {ops : List Oper} {K : St → Prop} {st : St} (T U : List Nat) (_hS : hasStore ops = true) (hM : mixB ops = true) (hT : ∀ t, t ∈ T → t < st.h.length) (k : evX0 P ops st.h.length ⟨T, U, none, false⟩ ops st K) : InX P ops st K := ⟨hM, .inl ⟨⟨T, U, none, false⟩, (fun e => nomatch e), hT, k⟩⟩

omit [Start] in
theorem round_mkTC {n0 : Nat} {α : Type} {r : Nat} {L : α → List (Nat × D)} {c : α → List D} {ls0 : α → Hp} {I : α → Prop} {μ : α → Nat} {m : Nat} {cs : List D} {ls : Hp} {st'' : St} (y : α) (h1 : I y) (h2 : μ y < m) (pre junk rows1 rows2 : Hp)
    (hh : st''.h = h.set r (.row (c y)) ++ (pre ++ (junk ++ rows1))) (h0 : ls0 y = pre ++ rows2) (hn : n0 ≤ h.length + pre.length) (hcl : ∀ (r : Nat) x, h[r]? = some x → ObCl h.length x) (hrow : ∀ d, d ∈ c y → Cl h.length d)
    (hpre : ∀ x, x ∈ pre → ObCl (h.length + pre.length) x) (hl : rows2.length = rows1.length) (hr : ∀ j (h1 : j < rows1.length) (h2 : j < rows2.length), RenOb (h.length + pre.length) junk.length (rows1[j]) (rows2[j]))
    (hs : ∀ p, p ∈ L y → RW (h.length + pre.length) junk.length (st''.fr p.1) p.2) : RoundOk n0 (LoopInvT h r L c ls0 I μ) m ⟨fr, h.set r (.row cs) ++ ls⟩ st'' := by
  have hlen : (h.set r (.row (c y)) ++ pre).length = h.length + pre.length := by simp
  refine ⟨μ y, ⟨frL (L y), h.set r (.row (c y)) ++ ls0 y⟩, h2, ⟨y, h1, rfl, rfl⟩, .inr ⟨⟨h.set r (.row (c y)) ++ pre, junk, rows1, rows2, by rw [hlen]; exact hn, by rw [hh, List.append_assoc], by rw [h0, List.append_assoc], fun q x hx => ?_, hl, fun j a b => by rw [hlen]; exact hr j a b, fun t => ?_⟩⟩⟩
  · rw [hlen]
    by_cases hrl : q < h.length
    · rw [List.getElem?_append_left (by simpa using hrl)] at hx
      by_cases e : q = r
      · subst e
        rw [List.getElem?_set_self hrl] at hx
        cases hx
        exact fun d hd => (hrow d hd).mono (by omega)
      · rw [List.getElem?_set_ne (fun e' => e e'.symm)] at hx
        exact (hcl q x hx).mono' (by omega)
    · rw [List.getElem?_append_right (by simp; omega)] at hx
      exact hpre x (List.mem_of_getElem? hx)
  · rw [hlen]
    simp only [frL]
    cases hq : (L y).lookup t with
    | none => exact .inr ⟨.junk _, .junk⟩
    | some d => exact hs (t, d) (lookup_mem hq)

theorem ev_loopTV {c0 : Code} {Q : Exit → St → Prop} {α : Type} {cs : List D} {ls : Hp} (r : Nat) (vts : List (Nat × Bool × Nat)) (L : α → List (Nat × D)) (c : α → List D) (ls0 : α → Hp) (I : α → Prop) (μ : α → Nat) (x0 : α) (hI : I x0)
    (hW : ∃ lsh, (vtSts ⟨fr, h.set r (.row cs) ++ ls⟩ vts).h = h.set r (.row cs) ++ lsh ∧ WeakTT h r lsh.length (vtSts ⟨fr, h.set r (.row cs) ++ ls⟩ vts) (L x0) (c x0) (ls0 x0))
    (hround : ∀ x, I x → ev P mu c0 (thenE (RoundOk (h.set r (.row cs) ++ ls).length (LoopInvT h r L c ls0 I μ) (μ x) ⟨frL (L x), h.set r (.row (c x)) ++ ls0 x⟩) Q) ⟨frL (L x), h.set r (.row (c x)) ++ ls0 x⟩) : ev P mu (.loop c0) Q ⟨fr, h.set r (.row cs) ++ ls⟩ := by
  obtain ⟨lsh, he, hW⟩ := hW
  refine ⟨vts, [], LoopInvT h r L c ls0 I μ, trivial, ⟨μ x0, _, ⟨x0, hI, rfl, rfl⟩, ?_⟩, ?_⟩
  · show Weak (vtSts _ vts) (vtSts _ vts) _
    exact hW.weak (by rw [he]; simp) (fun q hq hr => by
      rw [he, List.getElem?_append_left (by simpa using hq), List.getElem?_set_ne (fun e => hr e.symm)])
  · rintro m st' ⟨x, hx, rfl, rfl⟩
    exact hround x hx
theorem ev_loopTV0 {c0 : Code} {Q : Exit → St → Prop} {α : Type} {cs : List D} (r : Nat) (vts : List (Nat × Bool × Nat)) (L : α → List (Nat × D)) (c : α → List D) (ls0 : α → Hp) (I : α → Prop) (μ : α → Nat) (x0 : α) (hI : I x0)
    (hW : ∃ lsh, (vtSts ⟨fr, h.set r (.row cs)⟩ vts).h = h.set r (.row cs) ++ lsh ∧ WeakTT h r lsh.length (vtSts ⟨fr, h.set r (.row cs)⟩ vts) (L x0) (c x0) (ls0 x0))
    (hround : ∀ x, I x → ev P mu c0 (thenE (RoundOk h.length (LoopInvT h r L c ls0 I μ) (μ x) ⟨frL (L x), h.set r (.row (c x)) ++ ls0 x⟩) Q) ⟨frL (L x), h.set r (.row (c x)) ++ ls0 x⟩) : ev P mu (.loop c0) Q ⟨fr, h.set r (.row cs)⟩ := by
  have e := ev_loopTV (h := h) (ls := []) (P := P) (mu := mu) (fr := fr) (c0 := c0) (Q := Q) (cs := cs) r vts L c ls0 I μ x0 hI
  simp only [List.append_nil, List.length_set] at e
  exact e hW hround
end
end Go.Av

/- Calls that leave objects, in a region in which a variable's birth floats. -/
namespace Go.Av
set_option linter.unusedSectionVars false
variable [Start]
section
variable {P : Program} {ops rest : List Oper} {n : Nat} {T : TU} {dst : Option Tmp} {fr : Fr} {h : Hp} {K : St → Prop}

omit [Start] in
theorem setAll_same : ∀ (R : List (Nat × Ob)) {h : Hp}, (∀ p, p ∈ R → h[p.1]? = some p.2) → setAll h R = h
  | [], _, _ => rfl
  | p :: R, h, H => by
    have e : h.set p.1 p.2 = h := by
      apply List.ext_getElem?
      intro k
      by_cases hk : p.1 = k
      · subst hk
        have := H p List.mem_cons_self
        rw [List.getElem?_set_self (List.getElem?_eq_some_iff.1 this).1, this]
      · rw [List.getElem?_set_ne hk]
    show setAll (h.set p.1 p.2) R = h
    rw [e]
    exact setAll_same R fun q hq => H q (List.mem_cons_of_mem _ hq)
/-- R: objects that the call looks at, and leaves as they are. -/
theorem callXP {f : FuncId} {ys : List D} {d : D} {rows : Hp} (R : List (Nat × Ob)) (hp : T.p ≠ none) (hR : ∀ p, p ∈ R → p.1 ∈ T.t) (hh : ∀ p, p ∈ R → h[p.1]? = some p.2)
    (c : ∀ h' : Hp, h'.length = h.length → (∀ p, p ∈ R → h'[p.1]? = some p.2) → Meets P f ys h' fun d' h'' => d' = d ∧ h'' = h' ++ rows) (k : evX0 P ops n T rest ⟨putO fr dst d, h ++ rows⟩ K) : CallX P ops n T rest dst fr h K f ys := by
  refine ⟨d, ys, R, rows, fun h' hl hR' => ?_, hR, fun _ e => absurd e hp, wkL_same ys, ?_⟩
  · have e := fun p hq => (hR' p hq).trans (hh p hq)
    rw [setAll_same R e]
    exact c h' hl e
  · rw [setAll_same R hh]
    exact k
theorem callXP0 {f : FuncId} {ys : List D} {d : D} {rows : Hp} (hp : T.p ≠ none) (c : ∀ h' : Hp, h'.length = h.length → Meets P f ys h' fun d' h'' => d' = d ∧ h'' = h' ++ rows) (k : evX0 P ops n T rest ⟨putO fr dst d, h ++ rows⟩ K) : CallX P ops n T rest dst fr h K f ys :=
  callXP [] hp (fun _ hp => nomatch hp) (fun _ hp => nomatch hp) (fun h' hl _ => c h' hl) k
/-- A frozen call that leaves rows. -/
theorem Meets.frozenR {f : FuncId} {ys as : List D} {d : D} {rows : Hp} (c : Meets P f as (deadOf h) fun d' h' => d' = d ∧ h' = deadOf h ++ rows) (fz : FzL h ys as) (hn : NM h.length d) (hr : ∀ x, x ∈ rows → NMob h.length x) :
    Meets P f ys h fun d' h' => d' = d ∧ h' = h ++ rows := by
  have H := c.frozen (fz_of fz) (fun d' h' ⟨e1, e2⟩ => ⟨rows, e2, e1 ▸ hn, hr⟩)
  refine ⟨H.1, fun w σ vs hi hrep => (H.2 w σ vs hi hrep).mono ?_⟩
  rintro e w' ⟨v, he, d', h', σ', ⟨rows', ⟨e1, e2⟩, e3⟩, r⟩
  have := List.append_cancel_left e2
  subst this e1 e3
  exact ⟨v, he, _, _, σ', ⟨rfl, rfl⟩, r⟩
end
end Go.Av

/- Rows whose cells are rows, seen as slices of slices; calls over such a frozen heap. -/
namespace Go.Av
set_option linter.unusedSectionVars false
variable [Start]
section
variable {P : Program} {w : World} {σ : Sg} {h : Hp}

/-- as Frz, and a row whose cells are themselves seen so -/
inductive FrzN (n : Nat) (h : Hp) : D → D → Prop where
  | base {d d' : D} (H : Frz n h d d') : FrzN n h d d'
  | vec (r : Nat) (ag : Bool) (sz off len cp : Nat) (cs' : List D) (h1 : n ≤ r) (h2 : isRow (ob h r)) (h3 : (off + len) * sz ≤ (rowOf (ob h r)).length) (hl : cs'.length = (rowPart h r sz off len).length)
      (hh : ∀ k (h1 : k < (rowPart h r sz off len).length) (h2 : k < cs'.length), Frz n h ((rowPart h r sz off len)[k]) (cs'[k])) (h4 : ∀ d, d ∈ cs' → Cl 0 d) (h5 : 0 < sz) (h6 : ag = false → sz = 1 ∧ ∀ d, d ∈ cs' → d.cells = [d]) :
      FrzN n h (.vec r ag sz off len cp) (.slice (chunk ag sz len cs') .no)
  | agg (cs cs' : List D) (hl : cs'.length = cs.length) (hh : ∀ k (h1 : k < cs.length) (h2 : k < cs'.length), FrzN n h (cs[k]) (cs'[k])) : FrzN n h (.agg cs) (.agg cs')

theorem FrzN.rep (hi : Inv w σ h) {n : Nat} {ow' : Nat → Nat → Prop} (how : ∀ b o, ow' b o → own σ h b o) (hno : ∀ (r b : Nat) cs, n ≤ r → h[r]? = some (.row cs) → σ[r]? = some (some b) → ∀ o, ¬ ow' b o) {d d' : D} (F : FrzN n h d d') :
    ∀ {v : Value}, Rep w (own σ h) σ h d v → Rep w ow' σ h d' v := by
  induction F with
  | base H => exact H.rep hi how hno
  | agg cs cs' hl _ ih =>
    intro v H
    cases H with
    | agg _ vs hl' hr => exact .agg cs' vs (by omega) (fun k h1 h2 => ih k (by omega) h1 (hr k (by omega) h2))
  | vec r ag sz off len cp cs' h1 h2 h3 hl hh h4 h5 h6 =>
    intro v H
    have hrow := ob_row h2
    cases H with
    | vec _ _ _ _ _ _ a cap hlen hcap hr hb hv =>
      have hpl : (rowPart h r sz off len).length = len * sz := by
        simp only [rowPart, List.length_take, List.length_drop]
        rw [Nat.add_mul] at h3
        omega
      have hpl' : cs'.length = len * sz := hl.trans hpl
      obtain ⟨f1, f2, f3⟩ := flat_chunk (ag := ag) h5 len cs' hpl' h6
      have hfin : Rep w ow' σ h (.slice (chunk ag sz len cs') .no) (.slice a (chunk ag sz len cs').length cap) := by
        by_cases h0 : len = 0
        · subst h0
          refine .slice _ _ a cap (fun _ => undef) (by simp [chunk]) (by simp [chunk]) trivial (fun _ _ e => nomatch e) (fun k hk => ?_) (fun k hk => ?_) <;> (rw [f1] at hk; simp at hpl'; simp [hpl'] at hk)
        · rcases hv with hv | ⟨b, c, e, fz, rfl, q2, q3, q4⟩
          · omega
          · rcases (hi.live r _ hrow).cells with ⟨q, _⟩ | ⟨b', c', e', fz', g1, g2, g3, g4, g5⟩
            · rw [q] at h3
              simp only [List.length_nil] at h3
              have : 0 < (off + len) * sz := Nat.mul_pos (by omega) h5
              omega
            · obtain rfl : b' = b := by rw [q2] at g1; simpa using g1.symm
              have key : ∀ k, ∃ v, k < len * sz → c'[off * sz + k]? = some v ∧ ∀ (hk : k < cs'.length), Rep w ow' [] [] (cs'[k]) v := by
                intro k
                by_cases hk : k < len * sz
                · obtain ⟨v, v1, v2⟩ := g5 (off * sz + k) (by rw [Nat.add_mul] at h3; omega)
                  refine ⟨v, fun _ => ⟨v1, fun hk' => ?_⟩⟩
                  have hk2 : k < (rowPart h r sz off len).length := by omega
                  have he : (rowPart h r sz off len)[k] = (rowOf (ob h r))[off * sz + k]'(by rw [Nat.add_mul] at h3; omega) := by
                    simp [rowPart]
                  have hf := hh k hk2 hk'
                  rw [he] at hf
                  exact (hf.rep hi how hno v2).move (n := 0) (fun _ _ q => q) (h4 _ (List.getElem_mem hk')) (Nat.zero_le _) (fun r hr => absurd hr (by omega))
                · exact ⟨undef, fun h => absurd h hk⟩
              refine .slice _ _ _ cap (fun k => (key k).choose) (by rw [f3]; omega) (by rw [f3]; omega) trivial (fun _ _ e => nomatch e) (fun k hk => ?_) (fun k hk => ?_)
              · rw [f1, hpl'] at hk
                exact ⟨b', off * sz, rfl, hno r b' _ h1 hrow g1 _, by rw [cell_mk g2]; exact ((key k).choose_spec hk).1⟩
              · have hk' := hk
                rw [f1, hpl'] at hk'
                have := ((key k).choose_spec hk').2 (by rw [hpl']; exact hk')
                simp only [f1]
                exact this
      rw [f3] at hfin
      exact hfin

def FWN (n : Nat) (h : Hp) (d d' : D) : Prop := ∃ d0, FrzN n h d d0 ∧ Wk d0 d'
omit [Start] in
theorem FW.n {n : Nat} {d d' : D} (H : FW n h d d') : FWN n h d d' := let ⟨d0, h1, h2⟩ := H; ⟨d0, .base h1, h2⟩
def FWNL (n : Nat) (h : Hp) : List D → List D → Prop
  | [], [] => True
  | a :: as, b :: bs => FWN n h a b ∧ FWNL n h as bs
  | _, _ => False
omit [Start] in
theorem fwnl_split {n : Nat} {h : Hp} : ∀ {as bs : List D}, FWNL n h as bs → ∃ ds : List D, (ds.length = as.length ∧ ∀ k (h1 : k < as.length) (h2 : k < ds.length), FrzN n h (as[k]) (ds[k])) ∧ bs.length = ds.length ∧ ∀ k (h1 : k < ds.length) (h2 : k < bs.length), Wk (ds[k]) (bs[k])
  | [], [], _ => ⟨[], ⟨rfl, fun k h1 => nomatch h1⟩, rfl, fun k h1 => nomatch h1⟩
  | [], _ :: _, H => H.elim
  | _ :: _, [], H => H.elim
  | a :: as, b :: bs, ⟨⟨d0, f1, f2⟩, H⟩ => by
    obtain ⟨ds, ⟨g1, g2⟩, g3, g4⟩ := fwnl_split H
    refine ⟨d0 :: ds, ⟨by simp [g1], fun k h1 h2 => ?_⟩, by simp [g3], fun k h1 h2 => ?_⟩
    · cases k with
      | zero => exact f1
      | succ k => exact g2 k (by simpa using h1) (by simpa using h2)
    · cases k with
      | zero => exact f2
      | succ k => exact g4 k (by simpa using h1) (by simpa using h2)
omit [Start] in
theorem fwn_agg {n : Nat} {h : Hp} {as bs : List D} (H : FWNL n h as bs) : FWN n h (.agg as) (.agg bs) := by
  obtain ⟨ds, ⟨g1, g2⟩, g3, g4⟩ := fwnl_split H
  exact ⟨.agg ds, .agg as ds g1 g2, .agg _ _ g3 g4⟩
/-- The arguments of a frozen call. -/
def FzN (h : Hp) : List D → List D → Prop
  | [], [] => True
  | a :: as, b :: bs => FWN 0 h a b ∧ Cl 0 b ∧ FzN h as bs
  | _, _ => False
omit [Start] in
theorem FzN.at {h : Hp} : ∀ {args as : List D}, FzN h args as → as.length = args.length ∧ ∀ k (_ : k < args.length) (_ : k < as.length), ∃ d0, FrzN 0 h (args[k]) d0 ∧ Wk d0 (as[k]) ∧ Cl 0 (as[k])
  | [], [], _ => ⟨rfl, fun k h1 => absurd h1 (by simp)⟩
  | [], _ :: _, H => H.elim
  | _ :: _, [], H => H.elim
  | a :: args, b :: as, ⟨⟨d0, f1, f2⟩, f3, H⟩ => by
    obtain ⟨g1, g2⟩ := FzN.at H
    refine ⟨by simp [g1], fun k h1 h2 => ?_⟩
    cases k with
    | zero => exact ⟨d0, f1, f2, f3⟩
    | succ k => exact g2 k (by simpa using h1) (by simpa using h2)
theorem FzN.rep {args as : List D} {vs : List Value} (hi : Inv w σ h) (F0 : FzN h args as) (H : RepL w (own σ h) σ h args vs) : RepL w (own σ (deadOf h)) σ (deadOf h) as vs := by
  have F := F0.at
  refine ⟨by rw [F.1]; exact H.1, fun k h1 h2 => ?_⟩
  obtain ⟨d0, f1, f2, f3⟩ := F.2 k (by have := F.1; omega) h1
  have g := f1.rep hi (ow' := own σ (deadOf h)) (fun b o ho => absurd ho (own_dead b o)) (fun r b cs _ _ _ o => own_dead b o) (H.2 k (by have := F.1; omega) h2)
  exact (g.wk f2).move (n := 0) (fun _ _ q => q) f3 (Nat.zero_le _) (fun r hr => absurd hr (by omega))
/-- A frozen call that leaves rows (or none). -/
theorem Meets.frozenN {f : FuncId} {args as : List D} {d : D} {rows : Hp} (H : Meets P f as (deadOf h) fun d' h' => d' = d ∧ h' = deadOf h ++ rows) (F : FzN h args as) (hn : NM h.length d) (hr : ∀ x, x ∈ rows → NMob h.length x) :
    Meets P f args h fun d' h' => d' = d ∧ h' = h ++ rows := by
  refine ⟨H.1, fun w σ vs hi hrep => (H.2 w σ vs hi.frozen (F.rep hi hrep)).mono ?_⟩
  rintro e w' ⟨v, he, d', h', σ', ⟨rfl, rfl⟩, hi', hd, hst⟩
  obtain ⟨t1, t2⟩ := thaw hi hi' hst hr
  refine ⟨v, he, _, h ++ rows, σ', ⟨rfl, rfl⟩, t1, hn.rep hd (by simp [deadOf]) (fun r hr => ?_), t2⟩
  rw [List.getElem?_append_right hr, List.getElem?_append_right (by simpa [deadOf] using hr)]
  simp [deadOf]
theorem Gives.frozenN {f : FuncId} {args as : List D} {d : D} (H : Gives P f as (deadOf h) d) (F : FzN h args as) (hn : NM h.length d) : Gives P f args h d := by
  have := Meets.frozenN (h := h) (rows := []) (by rw [List.append_nil]; exact H) F hn (fun x hx => nomatch hx)
  rwa [List.append_nil] at this
end
end Go.Av

/- A loop of which the heap is told by what holds of it. -/
namespace Go.Av
set_option linter.unusedSectionVars false
variable [Start]
variable {P : Program} {mu : List Nat} {fr : Fr} {h : Hp}

def LoopInvE {α : Type} (L : α → List (Nat × D)) (hp : α → Hp) (I : α → Prop) (μ : α → Nat) (m : Nat) (st' : St) : Prop := ∃ x, I x ∧ μ x = m ∧ st' = ⟨frL (L x), hp x⟩
omit [Start] in
theorem weakE {l : List (Nat × D)} {st st'' : St} {hp : Hp} (hst : st.h.length = hp.length) (he : st''.h = hp) (hc : ∀ (r : Nat) z, hp[r]? = some z → st.h[r]? = some z ∨ ObCl hp.length z) (hs : SlotsOk hp.length st''.fr l) : Weak st st'' ⟨frL l, hp⟩ := by
  refine ⟨Nat.le_of_eq hst, by simp [he], by simp only [he]; exact List.take_of_length_le (Nat.le_refl _), hc, fun t => .inr ?_⟩
  simp only [frL]
  cases hl : l.lookup t with
  | none => exact ⟨.junk _, .junk⟩
  | some d => exact hs (t, d) (lookup_mem hl)
omit [Start] in
theorem round_mkE {n0 : Nat} {α : Type} {L : α → List (Nat × D)} {hp : α → Hp} {I : α → Prop} {μ : α → Nat} {m : Nat} {h0 : Hp} {st'' : St} (y : α) (h1 : I y) (h2 : μ y < m) (he : st''.h = hp y) (hl : h0.length = (hp y).length) (hc : ∀ (r : Nat) z, (hp y)[r]? = some z → h0[r]? = some z ∨ ObCl (hp y).length z) (hs : SlotsOk (hp y).length st''.fr (L y)) :
    RoundOk n0 (LoopInvE L hp I μ) m ⟨fr, h0⟩ st'' :=
  ⟨μ y, ⟨frL (L y), hp y⟩, h2, ⟨y, h1, rfl, rfl⟩, .inl (weakE hl he hc hs)⟩
theorem ev_loopE {c0 : Code} {Q : Exit → St → Prop} {α : Type} (L : α → List (Nat × D)) (hp : α → Hp) (I : α → Prop) (μ : α → Nat) (x0 : α) (hI : I x0) (h0 : hp x0 = h) (hs : SlotsOk h.length fr (L x0))
    (hround : ∀ x, I x → ev P mu c0 (thenE (RoundOk h.length (LoopInvE L hp I μ) (μ x) ⟨frL (L x), hp x⟩) Q) ⟨frL (L x), hp x⟩) : ev P mu (.loop c0) Q ⟨fr, h⟩ := by
  refine ⟨[], [], LoopInvE L hp I μ, trivial, ⟨μ x0, _, ⟨x0, hI, rfl, rfl⟩, ?_⟩, ?_⟩
  · subst h0
    exact weakE rfl rfl (fun r z hz => .inl hz) hs
  · rintro m st' ⟨x, hx, rfl, rfl⟩
    exact hround x hx

/-- A call behind which the heap is told by what holds of it. -/
theorem callMQ {mu : List Nat} {ops rest : List Oper} {dst : Option Tmp} {K : St → Prop} {f : FuncId} {ys : List D} {d : D} {Q : Hp → Prop} (c : Meets P f ys h fun d' h' => d' = d ∧ Q h') (k : ∀ h', Q h' → evOps P mu ops rest ⟨putO fr dst d, h'⟩ K) : CallSt P mu ops rest dst fr h K f ys :=
  call_meets c (wkL_same ys) (fun d' h' ⟨e, q⟩ => by subst e; exact k h' q)
/-- .. frozen, over rows of rows -/
theorem fzN {mu : List Nat} {ops rest : List Oper} {dst : Option Tmp} {K : St → Prop} {f : FuncId} {ys as : List D} {d : D} (c : Gives P f as (deadOf h) d) (fz : FzN h ys as) (hn : NM h.length d) (k : evOps P mu ops rest ⟨putO fr dst d, h⟩ K) : CallSt P mu ops rest dst fr h K f ys :=
  call_gives (c.frozenN fz hn) (wkL_same ys) k
theorem fzNG {mu : List Nat} {ops rest : List Oper} {dst : Option Tmp} {K : St → Prop} {f : FuncId} {ys as : List D} {d : D} {c : Bool} (hc : c = true → Gives P f as (deadOf h) d) (fz : c = true → FzN h ys as) (hn : NM h.length d) (k : evOps P mu ops rest ⟨putO fr dst (.when c d), h⟩ K) : CallG P mu ops rest dst fr h K c f ys :=
  callG_gives (fun e => (hc e).frozenN (fz e) hn) (fun _ => wkL_same ys) k
theorem fzNQ {ops rest : List Oper} {dst : Option Tmp} {K : St → Prop} {f : FuncId} {ys as : List D} {d : D} (c : Gives P f as (deadOf h) d) (fz : FzN h ys as) (hn : NM h.length d) (k : evQs P ops rest ⟨putO fr dst d, h⟩ K) : CallQ P ops rest dst fr h K f ys :=
  callQ_gives (c.frozenN fz hn) (wkL_same ys) k
theorem fzNM {mu : List Nat} {ops rest : List Oper} {dst : Option Tmp} {K : St → Prop} {f : FuncId} {ys as : List D} {d : D} {rows : Hp} (c : Meets P f as (deadOf h) fun d' h' => d' = d ∧ h' = deadOf h ++ rows) (fz : FzN h ys as) (hn : NM h.length d) (hr : ∀ x, x ∈ rows → NMob h.length x)
    (k : evOps P mu ops rest ⟨putO fr dst d, h ++ rows⟩ K) : CallSt P mu ops rest dst fr h K f ys :=
  call_meets (Meets.frozenN c fz hn hr) (wkL_same ys) (fun d' h' ⟨e1, e2⟩ => by subst e1 e2; exact k)

omit [Start] in
theorem enters_of {f : FuncId} {fn : Func} {c : Code} (hf : P.funcs[f]? = some fn) (hb : fn.body = some c) (hname : (fn.name == "runtime.NumGoroutine") = false) : Enters P f := fun as w => by
  have hn' : fn.name ≠ "runtime.NumGoroutine" := by simpa using hname
  simp [callFunc, hf, hn', hb]
/-- what the cells of a slice are bounded by -/
def deepD : D → Prop
  | .slice es _ => ∀ c, c ∈ flat es → flen c
  | _ => True
omit [Start] in
theorem rep_deep {w : World} {ow : Nat → Nat → Prop} {σ : Sg} {d : D} {v : Value} (H : Rep w ow σ h d v) : deepD d := by
  cases H with
  | slice es t a cap vs hlen hcap hfull htok hc hr =>
    intro c hcm
    obtain ⟨k, hk, rfl⟩ := List.mem_iff_getElem.1 hcm
    exact rep_flen (hr k hk)
  | _ => trivial
theorem meets_deep {f : FuncId} {args : List D} {Q : D → Hp → Prop} (he : Enters P f) (H : (∀ d, d ∈ args → deepD d) → Meets P f args h Q) : Meets P f args h Q :=
  ⟨he, fun w σ vs hi hr => (H fun d hd => by
    obtain ⟨k, hk, rfl⟩ := List.mem_iff_getElem.1 hd
    exact rep_deep (hr.2 k hk (by have := hr.1; omega))).2 w σ vs hi hr⟩
end Go.Av

/- Nested rows that a call leaves, seen as slices. -/
namespace Go.Av
set_option linter.unusedSectionVars false
variable [Start]

theorem Meets.freezeN {P : Program} {f : FuncId} {args : List D} {h rows : Hp} {d d' : D} (H : Meets P f args h fun x h' => x = d ∧ h' = h ++ rows) (F : FWN h.length (h ++ rows) d d') (C : Cl h.length d') : Gives P f args h d' := by
  refine ⟨H.1, fun w σ vs hi hr => (H.2 w σ vs hi hr).mono ?_⟩
  rintro e w' ⟨v, he, x, h', σ', ⟨rfl, rfl⟩, hi', hd, hst⟩
  obtain ⟨d0, k0, k2⟩ := F
  have htk : (h ++ rows).take h.length = h := by simp
  refine ⟨v, he, d', h, σ'.take h.length, ⟨rfl, rfl⟩, ?_, ?_, ?_⟩
  · have := hi'.take (n := h.length) (by simp) (fun r x hr hx => by
      rw [List.getElem?_append_left hr] at hx
      exact hi.cl hx)
    rw [htk] at this
    exact this
  · have hr0 := (k0.rep hi' (ow' := own (σ'.take h.length) ((h ++ rows).take h.length)) (fun b o => own_take) (fun r b cs hr hrow hb o ho => by
      obtain ⟨k, g1, g2⟩ := ho
      rw [List.getElem?_take] at g1 g2
      split at g1
      · rename_i hk
        rw [if_pos hk] at g2
        have hd : (h ++ rows)[k]? ≠ some .dead := by rcases g2 with ⟨_, e⟩ | ⟨_, e, _⟩ <;> rw [e] <;> simp
        have := hi'.inj k r b g1 hb hd (by rw [hrow]; simp)
        omega
      · cases g1) hd).wk k2
    have := hr0.move (σ' := σ'.take h.length) (h' := (h ++ rows).take h.length) (fun _ _ q => q) C (by simp) (fun r hr => ⟨getElem?_take_lt hr, fun hb k => by rw [getElem?_take_lt hr]; exact hb k, fun k => by rw [getElem?_take_lt hr]; exact id⟩)
    rw [htk] at this
    exact this
  · have := hst.take (n := h.length) (Nat.le_refl _) (by simp)
    rw [htk] at this
    exact this

end Go.Av
