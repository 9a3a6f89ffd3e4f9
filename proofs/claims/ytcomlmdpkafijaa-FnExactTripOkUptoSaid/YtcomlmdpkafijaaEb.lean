/- That the model's reading operations do what 'pureD' says, all of them. -/
import Derived.Test.YtcomlmdpkafijaaEa

namespace Go.Av

section
variable {P : Program} {w : World} {σ : Sg} {st : St} {a : Act}

theorem value_run {s : Sem Value} {v : Value} (h : s.run P w = .ok v w) : (do pure (Next.value (← s)) : Sem Next).run P w = .ok (.value v) w := by
  simp only [Sem.run_bind, h, Result.andThen_ok, Sem.run_pure]

theorem repO_of {ow : Nat → Nat → Prop} {h : Hp} {fr : Fr} (x : Option Operand) (hf : ∀ t, x = some (.tmp t) → Rep w ow σ h (fr t) (a.tmps.getD t undef)) (hk : okO fr x) : RepO w ow σ h (x.map (vl fr)) (x.map a.eval) := by
  cases x with
  | none => trivial
  | some x => exact rep_vl (fun t e => hf t (by rw [e])) hk

theorem conv_sound {src dst : TypeId} {x : D} {vx : Value} {ow : Nat → Nat → Prop} {h : Hp} (hx : Rep w ow σ h x vx) (hok : convOk P src dst x) :
    ∃ u, (convert src dst vx).run P w = .ok u w ∧ Rep w ow σ h (convD P dst x) u := by
  obtain ⟨h1, h2⟩ := hok
  obtain ⟨i, d, e1, e2, e3⟩ := ti_has h1
  cases hx with
  | int k n =>
    have hk : ∃ k', (ti P dst).kind = .int k' := by revert h2; cases (ti P dst).kind <;> simp [isIntK]
    obtain ⟨k', hk⟩ := hk
    refine ⟨.int k' (k'.wrap n), by simp [convert, run_underlying e2, run_underlying (ti_int hk), Conv.intToInt], ?_⟩
    simp only [convD, hk, kindInt]
    exact .int _ _
  | str s hl =>
    have hu := ti_str (P := P) (t := dst) (str_of h2)
    exact ⟨.string ⟨s.toArray⟩, by simp [convert, run_underlying e2, run_underlying hu], .str s hl⟩
  | _ => exact absurd h2 (by simp)

theorem pure_sound {o : Oper} (hi : Inv w σ st.h) (hf : ∀ t, looksTo o.op t → Rep w (own σ st.h) σ st.h (st.fr t) (a.tmps.getD t undef)) (hok : pureOk P st o.op) :
    ∃ v, (execOp a.eval o).run P w = .ok (.value v) w ∧ Rep w (own σ st.h) σ st.h (pureD P st o.op) v := by
  obtain ⟨dst, op, ty, pos, af, gd⟩ := o
  have V : ∀ x, x ∈ op.operands → ok1 st.fr x → Rep w (own σ st.h) σ st.h (vl st.fr x) (a.eval x) := fun x hx hk => rep_vl (fun t e => hf t (by show Operand.tmp t ∈ op.operands; rw [← e]; exact hx)) hk
  cases op with
  | move x => exact ⟨_, rfl, rep_opd' (fun t e => hf t (by simp [looksTo, Op.operands, e]))⟩
  | assign x => exact ⟨_, rfl, rep_opd' (fun t e => hf t (by simp [looksTo, Op.operands, e]))⟩
  | pick c x y =>
    obtain ⟨h1, h2, h3, h4⟩ := hok
    have hc := V c (by simp [Op.operands]) h1
    rw [isBool_of h2] at hc
    generalize hev : a.eval c = vc' at hc
    cases hc with
    | bool b =>
      simp only [pureD]
      cases hb : bof (vl st.fr c) with
      | true =>
        obtain ⟨k1, k2⟩ := h3 hb
        have hx := V x (by simp [Op.operands]) k1
        rw [isBool_of k2] at hx
        exact ⟨_, by simp [execOp, hev, hb, asBool]; rfl, by simpa using hx⟩
      | false =>
        obtain ⟨k1, k2⟩ := h4 hb
        have hx := V y (by simp [Op.operands]) k1
        rw [isBool_of k2] at hx
        exact ⟨_, by simp [execOp, hev, hb, asBool]; rfl, by simpa using hx⟩
  | load t x =>
    obtain ⟨u, h1, h2⟩ := load_sound hi (V x (by simp [Op.operands]) hok.1) hok.2
    exact ⟨u, value_run h1, h2⟩
  | fieldAddr s x f =>
    obtain ⟨u, h1, h2⟩ := field_sound (V x (by simp [Op.operands]) hok.1) hok.2
    exact ⟨u, value_run h1, h2⟩
  | indexAddr t x i =>
    obtain ⟨u, h1, h2⟩ := idx_sound (V x (by simp [Op.operands]) hok.1) (V i (by simp [Op.operands]) hok.2.1) hok.2.2
    exact ⟨u, value_run h1, h2⟩
  | index t x i =>
    obtain ⟨u, h1, h2⟩ := index_sound (V x (by simp [Op.operands]) hok.1) (V i (by simp [Op.operands]) hok.2.1) hok.2.2
    exact ⟨u, value_run h1, h2⟩
  | binOp op t x y ty =>
    obtain ⟨u, h1, h2⟩ := bin_sound (ox := x) (oy := y) (V x (by simp [Op.operands]) hok.1) (V y (by simp [Op.operands]) hok.2.1) hok.2.2
    exact ⟨u, value_run h1, h2⟩
  | unOp op t x =>
    obtain ⟨u, h1, h2⟩ := un_sound (V x (by simp [Op.operands]) hok.1) hok.2
    exact ⟨u, value_run h1, h2⟩
  | extract x i =>
    obtain ⟨u, h1, h2⟩ := ext_sound (V x (by simp [Op.operands]) hok.1) hok.2
    exact ⟨u, value_run h1, h2⟩
  | slice t x lo hi' mx =>
    obtain ⟨k1, k2, k3, k4, k5⟩ := hok
    obtain ⟨u, h1, h2⟩ := slice_sound (V x (by simp [Op.operands]) k1) (repO_of lo (fun t e => hf t (by simp [looksTo, Op.operands, e])) k2) (repO_of hi' (fun t e => hf t (by simp [looksTo, Op.operands, e])) k3)
      (repO_of mx (fun t e => hf t (by simp [looksTo, Op.operands, e])) k4) k5
    exact ⟨u, value_run h1, h2⟩
  | nilCheck x =>
    obtain ⟨k1, k2⟩ := hok
    have hx := V x (by simp [Op.operands]) k1
    simp only [pureD]
    revert hx k2
    generalize vl st.fr x = d
    generalize hev : a.eval x = v
    intro k2 hx
    cases hx with
    | ptr r off b hr hb hs => exact ⟨_, by simp [execOp, hev], .ptr r off b hr hb hs⟩
    | vptr cs b o vs hc hr => exact ⟨_, by simp [execOp, hev], .vptr cs b o vs hc hr⟩
    | _ => exact absurd k2 (by simp [isPtr'])
  | makeFunc fn first caps =>
    obtain ⟨k1, k2, k3⟩ := hok
    subst k1
    cases fn with
    | func f =>
      refine ⟨.func (.func f) #[] (caps.map a.eval), by simp [execOp, Instr.makeFunc], ?_⟩
      have := Rep.fn (w := w) (ow := own σ st.h) (σ := σ) (h := st.h) f (caps.toList.map (vl st.fr)) (caps.toList.map a.eval) (by simp) (fun k h1 h2 => by
        simp only [List.getElem_map]
        have hm : caps.toList[k]'(by simpa using h1) ∈ caps.toList := List.getElem_mem _
        exact V _ (by simp [Op.operands] at hm ⊢) (k3 _ hm))
      rw [show caps.map a.eval = (caps.toList.map a.eval).toArray from by apply Array.ext'; simp]
      exact this
    | _ => exact absurd k2 (by simp)
  | build t parts =>
    obtain ⟨k1, k2, k3, k4, k5⟩ := hok
    obtain ⟨u, h1, h2⟩ := build_sound (P := P) (w := w) (ow := own σ st.h) (σ := σ) (h := st.h) (t := t) (ps := parts.toList.map fun p => (p.1, vl st.fr p.2)) (vs := parts.map fun p => (p.1, a.eval p.2)) (by simp)
      (fun k h1 h2 => by
        simp only [Array.toList_map, List.getElem_map]
        refine ⟨trivial, ?_⟩
        have hm : parts.toList[k]'(by simpa using h1) ∈ parts.toList := List.getElem_mem _
        exact V _ (by simp only [Op.operands, List.mem_toArray]; exact List.mem_map.2 ⟨_, hm, rfl⟩) (k4 _ (List.mem_map.2 ⟨_, hm, rfl⟩))) k1 k2 k3 k5
    exact ⟨u, value_run h1, h2⟩
  | convert src dst x =>
    obtain ⟨u, h1, h2⟩ := conv_sound (V x (by simp [Op.operands]) hok.1) hok.2
    exact ⟨u, value_run h1, h2⟩
  | call c =>
    obtain ⟨callee, args, ts⟩ := c
    cases callee with
    | builtin b =>
      simp only [pureOk, builtinOk] at hok
      have hargs : ∀ x, x ∈ args → x ∈ Op.operands (.call ⟨.builtin b, args, ts⟩) := fun x hx => by simp [Op.operands, Call.operands, hx]
      cases b with
      | len =>
        obtain ⟨args⟩ := args
        obtain ⟨ts⟩ := ts
        match args, ts, hok with
        | [x], [t], hok =>
          obtain ⟨u, h1, h2⟩ := len_sound (ty := ty) (V x (hargs x (by simp)) hok.1) hok.2
          refine ⟨u, ?_, h2⟩
          simp [execOp, resolve, invoke, builtin, h1]
      | min =>
        obtain ⟨args⟩ := args
        obtain ⟨ts⟩ := ts
        match args, hok with
        | [x, y], hok =>
          obtain ⟨u, h1, h2⟩ := min_sound (P := P) (ts := ts.toArray) (ty := ty) (V x (hargs x (by simp)) hok.1) (V y (hargs y (by simp)) hok.2.1) hok.2.2.1 hok.2.2.2
          refine ⟨u, ?_, h2⟩
          simp [execOp, resolve, invoke, builtin, h1]
      | max =>
        obtain ⟨args⟩ := args
        obtain ⟨ts⟩ := ts
        match args, hok with
        | [x, y], hok =>
          obtain ⟨u, h1, h2⟩ := max_sound (P := P) (ts := ts.toArray) (ty := ty) (V x (hargs x (by simp)) hok.1) (V y (hargs y (by simp)) hok.2.1) hok.2.2.1 hok.2.2.2
          refine ⟨u, ?_, h2⟩
          simp [execOp, resolve, invoke, builtin, h1]
      | _ => exact absurd hok (by simp)
    | _ => exact absurd hok (by simp [pureOk])
  | _ => exact absurd hok (by simp [pureOk])
end
end Go.Av

/- New blocks and stores: what becomes of the world and of the objects. -/
namespace Go.Av

section
variable {w : World} {σ : Sg} {h : Hp}

theorem inv_lt (hi : Inv w σ h) {b o : Nat} (ho : own σ h b o) : b < w.heap.size := by
  obtain ⟨r, h1, _⟩ := ho
  exact hi.lt r b h1

theorem heap_alloc_lt (w : World) (o : Obj) {k : Nat} (hk : k < w.heap.size) : (w.alloc o).heap[k]? = w.heap[k]? := by
  show (w.heap.push o)[k]? = _
  rw [Array.getElem?_push, if_neg (by omega)]
theorem heap_alloc_new (w : World) (o : Obj) : (w.alloc o).heap[w.heap.size]? = some o := by
  show (w.heap.push o)[w.heap.size]? = _
  simp

theorem cell_of_heap {w w' : World} {b o : Nat} (h : w'.heap[b]? = w.heap[b]?) : w'.cell? ⟨b, o, none⟩ = w.cell? ⟨b, o, none⟩ := by simp [World.cell?, h]

/-- A step that only adds blocks to the world: the objects stay, or new ones come behind them that lie in new blocks (or nowhere). -/
structure Adds (w : World) (w' : World) : Prop where
  os : w'.os = w.os
  tape : w'.tape = w.tape
  output : w'.output = w.output
  size : w.heap.size ≤ w'.heap.size
  block : ∀ b : Nat, b < w.heap.size → w'.heap[b]? = w.heap[b]?

theorem Adds.refl (w : World) : Adds w w := ⟨rfl, rfl, rfl, Nat.le_refl _, fun _ _ => rfl⟩
theorem Adds.alloc {w0 w : World} (H : Adds w0 w) (o : Obj) : Adds w0 (w.alloc o) :=
  ⟨H.os, H.tape, H.output, by simp; have := H.size; omega, fun b hb => by rw [heap_alloc_lt _ _ (by have := H.size; omega)]; exact H.block b hb⟩
theorem Adds.drew {w0 w : World} (H : Adds w0 w) : Adds w0 w.drew := ⟨H.os, H.tape, H.output, H.size, H.block⟩

theorem own_app {σ' : Sg} {h' : Hp} (hl : σ.length = h.length) {b o : Nat} (ho : own (σ ++ σ') (h ++ h') b o) : own σ h b o ∨ own σ' h' b o := by
  obtain ⟨r, h1, h2⟩ := ho
  by_cases hr : r < h.length
  · rw [List.getElem?_append_left (by omega)] at h1
    rw [List.getElem?_append_left hr] at h2
    exact .inl ⟨r, h1, h2⟩
  · rw [List.getElem?_append_right (by omega)] at h1
    rw [List.getElem?_append_right (by omega)] at h2
    rw [hl] at h1
    exact .inr ⟨r - h.length, h1, h2⟩

theorem MonoH.app (hl : σ.length = h.length) (σ' : Sg) (h' : Hp) : MonoH σ h (σ ++ σ') (h ++ h') := by
  refine ⟨by simp, fun r hr hb => ⟨by rw [List.getElem?_append_left (by omega)], fun n => by rw [List.getElem?_append_left hr]; exact hb n⟩, fun r n hr hn => .inl ⟨by rwa [List.getElem?_append_left hr] at hn, by rw [List.getElem?_append_left (by omega)]⟩⟩

/-- New objects, each in a new block of its own or nowhere. -/
theorem step_adds {w' : World} (hi : Inv w σ h) (ha : Adds w w') (σ' : Sg) (h' : Hp) (hnew : ∀ b o, own σ' h' b o → w.heap.size ≤ b) : Step w σ h w' (σ ++ σ') (h ++ h') := by
  refine ⟨ha.os, ha.tape, ha.output, ha.size, fun b hb _ => ha.block b hb, fun b o v _ hc => ?_, fun b o ho => ?_, fun b c e fz hb => ⟨c, ?_, rfl⟩, MonoH.app hi.len σ' h'⟩
  · rw [cell_of_heap (ha.block b (lt_of_cell hc))]; exact hc
  · exact (own_app hi.len ho).imp id (hnew b o)
  · have hlt : b < w.heap.size := by
      apply Decidable.byContradiction
      intro hn
      rw [Array.getElem?_eq_none (by omega)] at hb
      cases hb
    rw [ha.block b hlt]; exact hb

theorem Live.step {w' : World} {σ' : Sg} {h' : Hp} {r : Nat} {cs : List D} (H : Live w σ h r cs) (K : Step w σ h w' σ' h') (hr : r < h.length) (hb : notBuf h r) (hsame : ∀ (b : Nat) c e fz, σ[r]? = some (some b) → w.heap[b]? = some (.cells c e fz) → w'.heap[b]? = some (.cells c e fz)) : Live w' σ' h' r cs := by
  refine ⟨H.cells.imp id ?_⟩
  rintro ⟨b, c, e, fz, q1, q2, q3, q4, q5⟩
  refine ⟨b, c, e, fz, (K.mono.sig r hr hb).1 ▸ q1, hsame b c e fz q1 q2, q3, q4, fun i hi => ?_⟩
  obtain ⟨v, v1, v2⟩ := q5 i hi
  exact ⟨v, v1, v2.step K⟩

/-- The same for the invariant: one new object. -/
theorem inv_add {w' : World} (hi : Inv w σ h) (ha : Adds w w') (s : Option Nat) (x : Ob) (hs : ∀ b, s = some b → w.heap.size ≤ b ∧ b < w'.heap.size)
    (hlive : ∀ cs, x = .row cs → Step w σ h w' (σ ++ [s]) (h ++ [x]) → Live w' (σ ++ [s]) (h ++ [x]) h.length cs) :
    Inv w' (σ ++ [s]) (h ++ [x]) ∧ Step w σ h w' (σ ++ [s]) (h ++ [x]) := by
  have hst : Step w σ h w' (σ ++ [s]) (h ++ [x]) := step_adds hi ha [s] [x] (fun b o ⟨r, h1, _⟩ => by
    have : r = 0 ∨ 0 < r := by omega
    rcases this with rfl | hr
    · simp at h1; exact (hs b h1).1
    · rw [List.getElem?_eq_none (by simp; omega)] at h1; cases h1)
  have hlt : ∀ (r b : Nat), (σ ++ [s])[r]? = some (some b) → (r < h.length ∧ σ[r]? = some (some b)) ∨ (r = h.length ∧ s = some b) := by
    intro r b hr
    by_cases hk : r < h.length
    · rw [List.getElem?_append_left (by rw [hi.len]; omega)] at hr; exact .inl ⟨hk, hr⟩
    · rw [List.getElem?_append_right (by rw [hi.len]; omega)] at hr
      have hz : r - σ.length = 0 := by
        apply Decidable.byContradiction
        intro hn
        rw [List.getElem?_eq_none (by simp; omega)] at hr; cases hr
      rw [hz] at hr
      simp at hr
      exact .inr ⟨by have := hi.len; omega, hr⟩
  refine ⟨⟨by simp [hi.len], fun r b hr => ?_, fun r cs hr => ?_, fun r r' b h1 h2 h3 h4 => ?_⟩, hst⟩
  · rcases hlt r b hr with ⟨_, q⟩ | ⟨_, q⟩
    · have := hi.lt r b q; have := ha.size; omega
    · exact (hs b q).2
  · by_cases hk : r < h.length
    · rw [List.getElem?_append_left hk] at hr
      exact (hi.live r cs hr).step hst hk (fun n hn => by rw [hr] at hn; cases hn) (fun b c e fz q1 q2 => by rw [ha.block b (hi.lt r b q1)]; exact q2)
    · rw [List.getElem?_append_right (by omega)] at hr
      have hz : r - h.length = 0 := by
        apply Decidable.byContradiction
        intro hn
        rw [List.getElem?_eq_none (by simp; omega)] at hr; cases hr
      rw [hz] at hr
      simp at hr
      have : r = h.length := by omega
      subst this
      exact hlive cs hr hst
  · have key : ∀ (q : Nat), q < h.length → (h ++ [x])[q]? ≠ some Ob.dead → h[q]? ≠ some Ob.dead := fun q hq hh => by rwa [List.getElem?_append_left hq] at hh
    rcases hlt r b h1 with ⟨a1, a2⟩ | ⟨a1, a2⟩ <;> rcases hlt r' b h2 with ⟨b1, b2⟩ | ⟨b1, b2⟩
    · exact hi.inj r r' b a2 b2 (key r a1 h3) (key r' b1 h4)
    · have := hi.lt r b a2; have := (hs b b2).1; omega
    · have := hi.lt r' b b2; have := (hs b a2).1; omega
    · omega

/-- New blocks, no new object. -/
theorem inv_same {w' : World} (hi : Inv w σ h) (ha : Adds w w') : Inv w' σ h ∧ Step w σ h w' σ h := by
  have hst : Step w σ h w' σ h := by
    have := step_adds hi ha [] [] (fun b o ⟨r, h1, _⟩ => by simp at h1)
    simpa using this
  refine ⟨⟨hi.len, fun r b hr => Nat.lt_of_lt_of_le (hi.lt r b hr) ha.size, fun r cs hr => ?_, hi.inj⟩, hst⟩
  have hk : r < h.length := by
    apply Decidable.byContradiction
    intro hn
    rw [List.getElem?_eq_none (by omega)] at hr; cases hr
  exact (hi.live r cs hr).step hst hk (fun n hn => by rw [hr] at hn; cases hn) (fun b c e fz q1 q2 => by rw [ha.block b (hi.lt r b q1)]; exact q2)

theorem thawed0 (i : Nat) : thawed (0, 0) i := by simp [thawed]

/-- A new row. -/
theorem alloc_row (hi : Inv w σ h) {cs : List D} {cells rest : Array Value} {e : TypeId} (hr : RepL w (own σ h) σ h cs cells.toList) :
    Inv (w.alloc (.cells (cells ++ rest) e)) (σ ++ [some w.heap.size]) (h ++ [.row cs]) ∧ Step w σ h (w.alloc (.cells (cells ++ rest) e)) (σ ++ [some w.heap.size]) (h ++ [.row cs]) := by
  refine inv_add hi ((Adds.refl w).alloc _) _ _ (fun b hb => by cases hb; simp) (fun cs' he hst => ⟨.inr ?_⟩)
  cases he
  refine ⟨w.heap.size, cells ++ rest, e, (0, 0), by rw [List.getElem?_append_right (by rw [hi.len]; omega), hi.len]; simp, heap_alloc_new _ _, ?_, fun i _ => thawed0 i, fun i hi' => ?_⟩
  · have := hr.1; simp only [Array.length_toList] at this; simp; omega
  · have hl := hr.1
    simp only [Array.length_toList] at hl
    refine ⟨cells.toList[i]'(by simp; omega), ?_, ?_⟩
    · rw [Array.getElem?_append_left (by omega)]; simp
    · exact (hr.2 i hi' (by simp; omega)).step hst
end
end Go.Av

/- Stores into rows and into the free end of a buffer. -/
namespace Go.Av

/-- Storing values one behind the other. -/
def World.puts (w : World) (b o : Nat) : List Value → World
  | [] => w
  | v :: vs => World.puts (w.setCell ⟨b, o, none⟩ v) b (o + 1) vs

section
variable {P : Program} {w : World} {σ : Sg} {h : Hp}

theorem heap_setCell_ne (w : World) (b o : Nat) (v : Value) {k : Nat} (hk : k ≠ b) : (w.setCell ⟨b, o, none⟩ v).heap[k]? = w.heap[k]? := by
  simp only [World.setCell, Array.getElem?_modify]
  rw [if_neg (by omega)]
theorem heap_setCell_eq {w : World} {b : Nat} {c : Array Value} {e : TypeId} {fz : Nat × Nat} (hb : w.heap[b]? = some (.cells c e fz)) (o : Nat) (v : Value) :
    (w.setCell ⟨b, o, none⟩ v).heap[b]? = some (.cells (c.setIfInBounds o v) e fz) := by
  simp [World.setCell, Array.getElem?_modify, hb]

theorem puts_spec : ∀ (vs : List Value) (w : World) (b o : Nat) (c : Array Value) (e : TypeId) (fz : Nat × Nat), w.heap[b]? = some (.cells c e fz) →
    (World.puts w b o vs).os = w.os ∧ (World.puts w b o vs).tape = w.tape ∧ (World.puts w b o vs).output = w.output ∧ (World.puts w b o vs).heap.size = w.heap.size ∧
    (∀ k, k ≠ b → (World.puts w b o vs).heap[k]? = w.heap[k]?) ∧
    ∃ c', (World.puts w b o vs).heap[b]? = some (.cells c' e fz) ∧ c'.size = c.size ∧ ∀ i, c'[i]? = if o ≤ i ∧ i < o + vs.length ∧ i < c.size then vs[i - o]? else c[i]?
  | [], w, b, o, c, e, fz, hb => ⟨rfl, rfl, rfl, rfl, fun _ _ => rfl, c, hb, rfl, fun i => by rw [if_neg (by simp; omega)]⟩
  | v :: vs, w, b, o, c, e, fz, hb => by
    obtain ⟨h1, h2, h3, h4, h5, c', h6, h7, h8⟩ := puts_spec vs (w.setCell ⟨b, o, none⟩ v) b (o + 1) _ e fz (heap_setCell_eq hb o v)
    refine ⟨h1, h2, h3, by rw [World.puts, h4]; simp [World.setCell], fun k hk => by rw [World.puts, h5 k hk, heap_setCell_ne _ _ _ _ hk], c', h6, by simpa using h7, fun i => ?_⟩
    rw [h8 i]
    simp only [Array.size_setIfInBounds, Array.getElem?_setIfInBounds, List.length_cons]
    by_cases e1 : i = o
    · subst e1
      rw [if_neg (by omega), if_pos rfl]
      by_cases e2 : i < c.size
      · rw [if_pos e2, if_pos (by omega)]; simp
      · rw [if_neg e2, if_neg (by omega), Array.getElem?_eq_none (by omega)]
    · by_cases e2 : o + 1 ≤ i ∧ i < o + 1 + vs.length ∧ i < c.size
      · rw [if_pos e2, if_pos (by omega), show i - o = (i - (o + 1)) + 1 by omega, List.getElem?_cons_succ]
      · rw [if_neg e2, if_neg (by omega), if_neg (by omega)]

theorem oneCell_of_ne {v : Value} (h : ∀ cs, v ≠ .agg cs) (h' : ∀ vs, v ≠ .tuple vs) : v.oneCell' = true := by
  cases v with
  | agg cs => exact absurd rfl (h cs)
  | tuple vs => exact absurd rfl (h' vs)
  | _ => rfl

theorem run_puts : ∀ (vs : List Value) (w : World) (b o i : Nat) (c : Array Value) (e : TypeId) (fz : Nat × Nat), w.heap[b]? = some (.cells c e fz) → o + i + vs.length ≤ c.size →
    (∀ j, o + i ≤ j → j < o + i + vs.length → thawed fz j) → (∀ v, v ∈ vs → v.oneCell' = true) → (storeCells ⟨b, o, none⟩ vs i).run P w = .ok () (World.puts w b (o + i) vs)
  | [], _, _, _, _, _, _, _, _, _, _, _ => by simp [storeCells, World.puts]
  | v :: vs, w, b, o, i, c, e, fz, hb, hl, hf, h1 => by
    simp only [List.length_cons] at hl
    have hcell : w.cell? ⟨b, o + i, none⟩ = some (c[o + i]'(by omega)) := by rw [cell_mk hb]; simp
    have hfz : w.frozen? ⟨b, o + i, none⟩ = false := by
      simp only [World.frozen?, hb]
      exact hf (o + i) (by omega) (by simp)
    have ih := run_puts vs (w.setCell ⟨b, o + i, none⟩ v) b o (i + 1) _ e fz (heap_setCell_eq hb (o + i) v) (by simp; omega) (fun j j1 j2 => hf j (by omega) (by simp; omega)) (fun u hu => h1 u (by simp [hu]))
    simp only [storeCells, Sem.run_bind, add_mk, run_store P w _ v _ (h1 v (by simp)), hcell, hfz, Bool.false_eq_true, if_false, Result.andThen_ok, ih, World.puts]
    rw [show o + i + 1 = o + (i + 1) by omega]

def cell1 : D → Prop
  | .agg _ | .tup _ | .junk | .when _ _ => False
  | _ => True

/-- Data that fill one cell each. -/
theorem one_of_rep {ow : Nat → Nat → Prop} {d : D} {v : Value} (H : Rep w ow σ h d v) (hd : cell1 d) : v.oneCell' = true := by
  cases H with
  | agg cs vs hl hr => exact absurd hd (by simp [cell1])
  | tup cs vs hl hr => exact absurd hd (by simp [cell1])
  | junk v => exact absurd hd (by simp [cell1])
  | off d => exact absurd hd (by simp [cell1])
  | on d v hr => exact absurd hd (by simp [cell1])
  | _ => rfl

theorem ones_of_rep {ow : Nat → Nat → Prop} {ds : List D} {vs : List Value} (H : RepL w ow σ h ds vs) (hd : ∀ d, d ∈ ds → cell1 d) : ∀ v, v ∈ vs → v.oneCell' = true := by
  intro v hv
  obtain ⟨k, hk, rfl⟩ := List.mem_iff_getElem.1 hv
  have hk' : k < ds.length := by rw [← H.1]; exact hk
  exact one_of_rep (H.2 k hk' hk) (hd _ (List.getElem_mem hk'))

theorem ob_set (h : Hp) (r k : Nat) (x : Ob) : (h.set r x)[k]? = if k = r ∧ r < h.length then some x else h[k]? := by
  rw [List.getElem?_set]
  by_cases e : k = r
  · subst e
    by_cases hk : k < h.length
    · simp [hk]
    · simp [hk]
  · simp [e, Ne.symm e]

/-- A store into a row. -/
theorem store_row (hi : Inv w σ h) {r off : Nat} {cs ds : List D} {vs : List Value} (hrow : h[r]? = some (.row cs)) (hl : off + ds.length ≤ cs.length) (hpos : 0 < ds.length) (hr : RepL w (own σ h) σ h ds vs) (h1 : ∀ d, d ∈ ds → cell1 d) {b : Nat} (hb : σ[r]? = some (some b)) :
    (storeCells ⟨b, off, none⟩ vs).run P w = .ok () (World.puts w b off vs) ∧ Inv (World.puts w b off vs) σ (h.set r (.row (splice cs off ds))) ∧ Step w σ h (World.puts w b off vs) σ (h.set r (.row (splice cs off ds))) := by
  have hrl : r < h.length := by
    apply Decidable.byContradiction
    intro hn
    rw [List.getElem?_eq_none (Nat.le_of_not_lt hn)] at hrow; cases hrow
  have hvl : vs.length = ds.length := hr.1
  rcases (hi.live r cs hrow).cells with q | ⟨b', c, e, fz, q1, q2, q3, q4, q5⟩
  · rw [q] at hl; simp only [List.length_nil] at hl; omega
  · obtain rfl : b' = b := by rw [hb] at q1; simpa using q1.symm
    have hrun := run_puts (P := P) vs w b' off 0 c e fz q2 (by omega) (fun j _ j2 => q4 j (by omega)) (ones_of_rep hr h1)
    obtain ⟨p1, p2, p3, p4, p5, c', p6, p7, p8⟩ := puts_spec vs w b' off c e fz q2
    have hown : ∀ b o, own σ (h.set r (.row (splice cs off ds))) b o ↔ own σ h b o := by
      intro b o
      constructor
      · rintro ⟨k, k1, k2⟩
        refine ⟨k, k1, ?_⟩
        rw [ob_set] at k2
        split at k2
        · rename_i hk; rw [hk.1]; exact .inl ⟨cs, hrow⟩
        · exact k2
      · rintro ⟨k, k1, k2⟩
        refine ⟨k, k1, ?_⟩
        rw [ob_set]
        split
        · exact .inl ⟨_, rfl⟩
        · exact k2
    have hob : ∀ o, own σ h b' o := fun o => ⟨r, hb, .inl ⟨cs, hrow⟩⟩
    have hst : Step w σ h (World.puts w b' off vs) σ (h.set r (.row (splice cs off ds))) := by
      refine ⟨p1, p2, p3, by rw [p4]; exact Nat.le_refl _, fun k hk ho => p5 k (fun e => ho 0 (e ▸ hob 0)), fun k o v ho hc => ?_, fun k o ho => .inl ((hown k o).1 ho), fun k ck ek fk hk => ?_, ⟨by simp, fun k hk hn => ⟨rfl, fun n => ?_⟩, fun k n hk hn => .inl ⟨?_, rfl⟩⟩⟩
      · rw [cell_of_heap (p5 k (fun e => ho (e ▸ hob o)))]; exact hc
      · by_cases e1 : k = b'
        · subst e1
          rw [q2] at hk
          cases hk
          exact ⟨c', p6, p7⟩
        · exact ⟨ck, by rw [p5 k e1]; exact hk, rfl⟩
      · rw [ob_set]
        split
        · simp
        · exact hn n
      · rw [ob_set] at hn
        split at hn
        · cases hn
        · exact hn
    refine ⟨by simpa using hrun, ⟨by simp [hi.len], fun k b hk => by rw [p4]; exact hi.lt k b hk, fun k cs' hk => ?_, fun k k' b h1 h2 h3 h4 => hi.inj k k' b h1 h2 ?_ ?_⟩, hst⟩
    · rw [ob_set] at hk
      split at hk
      · rename_i hkr
        cases hk
        rw [hkr.1]
        refine ⟨.inr ⟨b', c', e, fz, hb, p6, by rw [size_splice hl, p7]; exact q3, by rw [p7]; exact q4, fun i hi' => ?_⟩⟩
        rw [size_splice hl] at hi'
        rw [p8 i]
        simp only [splice]
        by_cases c1 : off ≤ i ∧ i < off + vs.length
        · rw [if_pos ⟨c1.1, c1.2, by omega⟩]
          refine ⟨vs[i - off]'(by omega), by rw [List.getElem?_eq_getElem (by omega)], ?_⟩
          have := (hr.2 (i - off) (by omega) (by omega)).step hst
          have he : (cs.take off ++ ds ++ cs.drop (off + ds.length))[i]'(by simp; omega) = ds[i - off]'(by omega) := by
            rw [List.getElem_append_left (by simp; omega), List.getElem_append_right (by simp; omega)]
            simp [show min off cs.length = off by omega]
          rw [he]
          exact this
        · rw [if_neg (by omega)]
          obtain ⟨v, v1, v2⟩ := q5 i hi'
          refine ⟨v, v1, ?_⟩
          have he : (cs.take off ++ ds ++ cs.drop (off + ds.length))[i]'(by simp; omega) = cs[i] := by
            by_cases c2 : i < off
            · rw [List.getElem_append_left (by simp; omega), List.getElem_append_left (by simp; omega)]
              simp
            · rw [List.getElem_append_right (by simp; omega)]
              simp only [List.getElem_drop, List.length_append, List.length_take]
              congr 1
              omega
          rw [he]
          exact v2.step hst
      · rename_i hkr
        have hkl : k < h.length := by
          apply Decidable.byContradiction
          intro hn
          rw [List.getElem?_eq_none (Nat.le_of_not_lt hn)] at hk; cases hk
        refine (hi.live k cs' hk).step hst hkl (fun n hn => by rw [hk] at hn; cases hn) (fun b2 c2 e2 f2 g1 g2 => ?_)
        have hne : b2 ≠ b' := by
          rintro rfl
          exact hkr ⟨hi.inj k r b2 g1 hb (by rw [hk]; simp) (by rw [hrow]; simp), hrl⟩
        rw [p5 b2 hne]; exact g2
    · rw [ob_set] at h3
      split at h3
      · rename_i e1; rw [e1.1, hrow]; simp
      · exact h3
    · rw [ob_set] at h4
      split at h4
      · rename_i e1; rw [e1.1, hrow]; simp
      · exact h4
end
end Go.Av

/- append -/
namespace Go.Av

section
variable {P : Program} {w : World} {σ : Sg} {h : Hp}

/-- The cells of a slice that is not written. -/
theorem run_cells {ow : Nat → Nat → Prop} {es : List D} {t : Tok} {v : Value} {sz : Nat} (hs : Rep w ow σ h (.slice es t) v) (ha : AllSz sz es) :
    ∃ a cap vals, v = .slice a es.length cap ∧ es.length ≤ cap ∧ (∀ w' : World, (∀ x, w'.cell? x = w.cell? x) → (Builtin.firstCells sz es.length v).run P w' = .ok vals w') ∧ RepL w ow [] [] (flat es) vals.toList ∧
      ∀ b o, a = some ⟨b, o, none⟩ → ∀ k, k < (flat es).length → w.cell? ⟨b, o + k, none⟩ = vals.toList[k]? := by
  cases hs with
  | slice _ _ a cap vs hlen hcap hfull htok hc hr =>
    have hl := flat_length ha
    cases a with
    | none =>
      have h0 : (flat es).length = 0 := by
        apply Decidable.byContradiction
        intro hn
        obtain ⟨b, o, e, _⟩ := hc 0 (by omega)
        cases e
      exact ⟨none, cap, #[], rfl, hcap, fun _ _ => rfl, ⟨by simp [h0], fun k h1 => absurd h1 (by omega)⟩, fun _ _ e => nomatch e⟩
    | some a =>
      by_cases h0 : (flat es).length = 0
      · refine ⟨some a, cap, #[], rfl, hcap, fun w' _ => ?_, ⟨by simp [h0], fun k h1 => absurd h1 (by omega)⟩, fun _ _ _ k hk => absurd hk (by omega)⟩
        rw [hl] at h0
        simp only [Builtin.firstCells, h0, loadCells, loadCellsFrom, Sem.run_pure]
      · obtain ⟨b, o, e, _, _⟩ := hc 0 (by omega)
        cases e
        refine ⟨_, cap, ((List.range (es.length * sz)).map vs).toArray, rfl, hcap, fun w' hw' => ?_, ⟨by simp [hl], fun k h1 h2 => ?_⟩, fun b' o' e k hk => ?_⟩
        · simp only [Builtin.firstCells]
          refine run_loadCells w' _ _ vs fun j hj => ?_
          obtain ⟨b', o', e, _, q⟩ := hc j (by omega)
          cases e
          rw [add_mk, hw']; exact q
        · simp only [List.getElem_map, List.getElem_range]
          exact hr k h1
        · cases e
          obtain ⟨b', o', e, _, q⟩ := hc k hk
          cases e
          rw [q]
          rw [hl] at hk
          simp [List.getElem?_map, List.getElem?_range hk]

/-- What append asks of types and sizes. -/
structure AppOk (P : Program) (t : TypeId) (es news : List D) : Prop where
  k1 : isSliceK (ti P t).kind
  k3 : (ti P (ti P t).elem).has = true
  k3' : 0 < (ti P (ti P t).elem).sz
  k3'' : (ti P (ti P t).elem).zero.length = (ti P (ti P t).elem).sz
  k4 : AllSz (ti P (ti P t).elem).sz es
  k5 : AllSz (ti P (ti P t).elem).sz news
  k6 : es.length + news.length ≤ lenMax
  k7 : (es.length + news.length) * (ti P (ti P t).elem).bs ≤ 140737488355328

theorem zero_of {t : TypeId} (hh : (ti P t).has = true) (hp : 0 < (ti P t).sz) (hz : (ti P t).zero.length = (ti P t).sz) : ∃ i z, P.info? t = some i ∧ i.size = (ti P t).sz ∧ i.bytes = (ti P t).bs ∧ i.zero = some z ∧ z.cells.size = (ti P t).sz := by
  obtain ⟨i, d, e1, e2, e3⟩ := ti_has hh
  rw [e3] at hp hz ⊢
  simp only at hp hz ⊢
  cases hi : i.zero with
  | none => simp only [zeroOf, hi, List.length_nil] at hz; omega
  | some z => exact ⟨i, z, e1, rfl, rfl, hi, by simpa [zeroOf, hi] using hz⟩

/-- The run where there is room. -/
theorem run_app_fits {t ty : TypeId} {es news : List D} (hk : AppOk P t es news) {a a2 : Option Addr} {cap c2 : Nat} {vals : Array Value}
    (hv : (Builtin.firstCells (ti P (ti P t).elem).sz news.length (.slice a2 news.length c2)).run P w = .ok vals w) (hfit : es.length + news.length ≤ cap) {w' : World}
    (hst : ∀ x, a = some x → (storeCells (x.add (es.length * (ti P (ti P t).elem).sz)) vals.toList).run P w = .ok () w') (hn : a = none → w' = w) :
    (Builtin.append_ #[t, t] ty #[.slice a es.length cap, .slice a2 news.length c2]).run P w = .ok (.slice a (es.length + news.length) cap) w' := by
  obtain ⟨i, z, e1, e2, e3, e4, e5⟩ := zero_of hk.k3 hk.k3' hk.k3''
  have ht := ti_slice (slice_of hk.k1)
  rw [← e2] at hv hst
  cases a with
  | none => simp [Builtin.append_, run_underlying ht, sizeOf, typeInfo, e1, Builtin.lenOf, hfit, hv, hn]
  | some x => simp [Builtin.append_, run_underlying ht, sizeOf, typeInfo, e1, Builtin.lenOf, hfit, hv, hst x rfl]

theorem size_zeroCells' (z : Array Value) (n : Nat) : (Builtin.zeroCells z n).size = n * z.size := by simp [Builtin.zeroCells]

/-- The run where a new array is made. -/
theorem run_app_grow {t ty : TypeId} {es news : List D} (hk : AppOk P t es news) {a a2 : Option Addr} {cap c2 : Nat} {olds vals : Array Value}
    (ho : (Builtin.firstCells (ti P (ti P t).elem).sz es.length (.slice a es.length cap)).run P w.drew = .ok olds w.drew)
    (hv : (Builtin.firstCells (ti P (ti P t).elem).sz news.length (.slice a2 news.length c2)).run P w.drew = .ok vals w.drew) (hfit : cap < es.length + news.length) :
    ∃ newCap rest, es.length + news.length ≤ newCap ∧ rest.size = (newCap - (es.length + news.length)) * (ti P (ti P t).elem).sz ∧
      (Builtin.append_ #[t, t] ty #[.slice a es.length cap, .slice a2 news.length c2]).run P w = .ok (.slice (some ⟨w.heap.size, 0, none⟩) (es.length + news.length) newCap) (w.drew.alloc (.cells (olds ++ vals ++ rest) (ti P t).elem)) := by
  obtain ⟨i, z, e1, e2, e3, e4, e5⟩ := zero_of hk.k3 hk.k3' hk.k3''
  have ht := ti_slice (slice_of hk.k1)
  have h7 := hk.k7
  have h6 := hk.k6
  have hp := hk.k3'
  generalize (ti P t).elem = e at *
  refine ⟨grownCap w (es.length + news.length) cap e, Builtin.zeroCells z.cells (grownCap w (es.length + news.length) cap e - (es.length + news.length)), ?_, by rw [size_zeroCells', e5], ?_⟩
  · unfold grownCap; simp only [Question.cut]; omega
  · rw [← e2] at ho hv
    rw [← e3] at h7
    have hn : ¬ (es.length + news.length ≤ cap) := by omega
    have h63' : ¬ (9223372036854775807 < ((es.length : Int) + (news.length : Int))) := by simp only [lenMax] at h6; omega
    have h48' : ¬ (281474976710656 < Builtin.nextslicecap (es.length + news.length) cap * i.bytes) := by have := growslice_fits hfit h7; omega
    simp [Builtin.append_, run_underlying ht, sizeOf, typeInfo, zeroValue, e1, e4, Builtin.lenOf, hn, h63', h48', Question.forced, ho, hv, newRow, grownCap]

/-- A reading of pure data in whatever objects. -/
theorem Rep.pure {ow : Nat → Nat → Prop} {d : D} {v : Value} (H : Rep w ow [] [] d v) (σ : Sg) (h : Hp) : Rep w ow σ h d v :=
  H.mono ⟨fun _ _ _ _ q => q, fun _ _ _ q => q, fun _ c _ _ q => ⟨c, q, rfl⟩⟩ ⟨Nat.zero_le _, fun r hr => absurd hr (by simp), fun r n hr => absurd hr (by simp)⟩
theorem Rep.pureW {w' : World} {ow ow' : Nat → Nat → Prop} {d : D} {v : Value} (H : Rep w ow [] [] d v) (hm : MonoW w ow w' ow') : Rep w' ow' [] [] d v := H.mono hm MonoH.nil

/-- What a slice over a row of pure cells in one block reads as. -/
theorem rep_slice_mk {w' : World} {ow' : Nat → Nat → Prop} {σ' : Sg} {h' : Hp} {es : List D} {t : Tok} {b cap : Nat} {c : Array Value} {e : TypeId} {fz : Nat × Nat} (hb : w'.heap[b]? = some (.cells c e fz)) {vals : List Value}
    (hlen : es.length ≤ lenMax) (hcap : es.length ≤ cap) (hfull : t = .full → cap = es.length) (htok : ∀ r sz, t = .buf r sz → TokOk w' σ' h' r sz (flat es).length es.length (some ⟨b, 0, none⟩) cap)
    (hown : ∀ k, k < (flat es).length → ¬ ow' b k) (hr : RepL w' ow' [] [] (flat es) vals) (hc : ∀ k, k < vals.length → c[k]? = vals[k]?) : Rep w' ow' σ' h' (.slice es t) (.slice (some ⟨b, 0, none⟩) es.length cap) := by
  refine .slice es t _ cap (fun k => vals.getD k undef) hlen hcap hfull htok (fun k hk => ⟨b, 0, rfl, by rw [Nat.zero_add]; exact hown k hk, ?_⟩) (fun k hk => ?_)
  · have := hr.1
    rw [Nat.zero_add, cell_mk hb, hc k (by omega), List.getD_eq_getElem?_getD, List.getElem?_eq_getElem (by omega)]
    rfl
  · have := hr.1
    rw [List.getD_eq_getElem?_getD, List.getElem?_eq_getElem (by omega)]
    exact hr.2 k hk (by omega)

theorem adds_grow (w : World) (o : Obj) : Adds w (w.drew.alloc o) := ((Adds.refl w).drew).alloc o

/-- append to a full slice: a buffer of its own. -/
theorem app_full (hi : Inv w σ h) {t ty : TypeId} {es news : List D} {t2 : Tok} {v vx : Value} (hs : Rep w (own σ h) σ h (.slice es .full) v) (hx : Rep w (own σ h) σ h (.slice news t2) vx) (hk : AppOk P t es news) :
    ∃ u w' s, (Builtin.append_ #[t, t] ty #[v, vx]).run P w = .ok u w' ∧ Inv w' (σ ++ [s]) (h ++ [.buf ((es.length + news.length) * (ti P (ti P t).elem).sz)]) ∧
      Step w σ h w' (σ ++ [s]) (h ++ [.buf ((es.length + news.length) * (ti P (ti P t).elem).sz)]) ∧
      Rep w' (own (σ ++ [s]) (h ++ [.buf ((es.length + news.length) * (ti P (ti P t).elem).sz)])) (σ ++ [s]) (h ++ [.buf ((es.length + news.length) * (ti P (ti P t).elem).sz)]) (.slice (es ++ news) (.buf h.length (ti P (ti P t).elem).sz)) u := by
  have hfl : (flat (es ++ news)).length = (es.length + news.length) * (ti P (ti P t).elem).sz := by rw [flat_append, List.length_append, flat_length hk.k4, flat_length hk.k5, Nat.add_mul]
  obtain ⟨a, cap, olds, rfl, hcap, holds, hro, _⟩ := run_cells (P := P) hs hk.k4
  have hfull : cap = es.length := by cases hs with | slice _ _ _ _ vs _ _ hf _ _ _ => exact hf rfl
  obtain ⟨a2, c2, vals, rfl, hcap2, hvals, hrv, _⟩ := run_cells (P := P) hx hk.k5
  by_cases hn : news = []
  · subst hn
    have hv0 : vals = #[] := by have := hrv.1; simp [flat] at this; exact this
    subst hv0
    have hrun := run_app_fits (P := P) (ty := ty) (w := w) hk (a := a) (cap := cap) (hvals w (fun _ => rfl)) (by simp; omega) (w' := w) (fun x _ => by simp [storeCells]) (fun _ => rfl)
    obtain ⟨g1, g2⟩ := inv_add hi (Adds.refl w) none (.buf ((es.length + ([] : List D).length) * (ti P (ti P t).elem).sz)) (fun b e => by cases e) (fun cs e => by cases e)
    refine ⟨_, w, none, hrun, g1, g2, ?_⟩
    have hs' := hs.step g2
    simp only [List.append_nil, List.length_nil, Nat.add_zero] at *
    cases hs' with
    | slice _ _ _ _ vs hlen hcap' hf htok hc hr =>
      refine .slice es _ a cap vs hlen hcap' (fun e => nomatch e) (fun r sz e => ?_) hc hr
      cases e
      exact ⟨by simp, hfl, fun n hn => by
        rw [List.getElem?_append_right (Nat.le_refl _)] at hn
        simp at hn
        exact ⟨by omega, fun _ => .inl (hf rfl)⟩⟩
  · have hn0 : 0 < news.length := List.length_pos_iff.2 hn
    obtain ⟨newCap, rest, g1, g2, g3⟩ := run_app_grow (P := P) (ty := ty) hk (holds w.drew (fun _ => rfl)) (hvals w.drew (fun _ => rfl)) (by omega)
    have ha := adds_grow w (.cells (olds ++ vals ++ rest) (ti P t).elem)
    obtain ⟨i1, i2⟩ := inv_add hi ha (some w.heap.size) (.buf ((es.length + news.length) * (ti P (ti P t).elem).sz)) (fun b e => by cases e; simp) (fun cs e => by cases e)
    refine ⟨_, _, _, g3, i1, i2, ?_⟩
    have hl0 : olds.size = es.length * (ti P (ti P t).elem).sz := by have := hro.1; rw [flat_length hk.k4] at this; simpa using this
    have hl1 : vals.size = news.length * (ti P (ti P t).elem).sz := by have := hrv.1; rw [flat_length hk.k5] at this; simpa using this
    have hm := i2.monoW
    have hrep : RepL (w.drew.alloc (.cells (olds ++ vals ++ rest) (ti P t).elem)) (own (σ ++ [some w.heap.size]) (h ++ [.buf ((es.length + news.length) * (ti P (ti P t).elem).sz)])) [] [] (flat (es ++ news)) (olds ++ vals).toList := by
      rw [flat_append, Array.toList_append]
      exact RepL.append ⟨hro.1, fun k h1 h2 => (hro.2 k h1 h2).pureW hm⟩ ⟨hrv.1, fun k h1 h2 => (hrv.2 k h1 h2).pureW hm⟩
    rw [show Value.slice (some ⟨w.heap.size, 0, none⟩) (es.length + news.length) newCap = Value.slice (some ⟨w.heap.size, 0, none⟩) (es ++ news).length newCap by simp]
    refine rep_slice_mk (c := olds ++ vals ++ rest) (e := (ti P t).elem) (fz := (0, 0)) (heap_alloc_new w.drew _) (by simpa using hk.k6) (by simpa using g1) (fun e => nomatch e) (fun r sz e => ?_) (fun k hk' => ?_) hrep (fun k hk' => ?_)
    · cases e
      refine ⟨by simp, by rw [hfl]; simp, fun n hn => ?_⟩
      rw [List.getElem?_append_right (Nat.le_refl _)] at hn
      simp at hn
      refine ⟨by omega, fun _ => .inr ⟨w.heap.size, _, _, _, rfl, by rw [List.getElem?_append_right (by rw [hi.len]; omega), hi.len]; simp, heap_alloc_new w.drew _, ?_, fun i _ => thawed0 i⟩⟩
      simp only [Array.size_append, hl0, hl1, g2]
      rw [← Nat.add_mul, ← Nat.add_mul]
      exact Nat.mul_le_mul_right _ (by omega)
    · rintro ⟨r, h1, h2⟩
      by_cases hr : r < h.length
      · rw [List.getElem?_append_left (by rw [hi.len]; omega)] at h1
        have := hi.lt r _ h1
        omega
      · rw [List.getElem?_append_right (by omega)] at h2
        have hz : r - h.length = 0 := by
          apply Decidable.byContradiction
          intro hn
          rw [List.getElem?_eq_none (by simp; omega)] at h2
          rcases h2 with ⟨_, e⟩ | ⟨_, e, _⟩ <;> cases e
        rw [hz] at h2
        simp at h2
        omega
    · simp only [Array.length_toList, Array.size_append] at hk'
      rw [Array.getElem?_append_left (by simp; omega), ← Array.getElem?_toList]
end
end Go.Av

/- append to a slice that ends where its buffer's used part ends -/
namespace Go.Av

section
variable {P : Program} {w : World} {σ : Sg} {h : Hp}

theorem set_same {h : Hp} {r : Nat} {x : Ob} (hr : h[r]? = some x) : h.set r x = h := by
  apply List.ext_getElem?
  intro k
  rw [ob_set]
  split
  · rename_i e; rw [e.1, hr]
  · rfl

/-- Of another object of the heap nothing has turned. -/
theorem inv_set_buf (hi : Inv w σ h) {r m n : Nat} (hob : h[r]? = some (.buf m)) (hmn : m < n) {w' : World} {s : Option Nat} {σ' : Sg} (hσ : ∀ k : Nat, σ'[k]? = if k = r then some s else σ[k]?) (hσl : σ'.length = σ.length)
    (hos : w'.os = w.os) (htape : w'.tape = w.tape) (hout : w'.output = w.output) (hsize : w.heap.size ≤ w'.heap.size)
    (hblock : ∀ b : Nat, b < w.heap.size → (∀ o, ¬ own σ h b o) → w'.heap[b]? = w.heap[b]?) (hcell : ∀ b o v, ¬ own σ h b o → w.cell? ⟨b, o, none⟩ = some v → w'.cell? ⟨b, o, none⟩ = some v)
    (hshape : ∀ (b : Nat) c e fz, w.heap[b]? = some (.cells c e fz) → ∃ c', w'.heap[b]? = some (.cells c' e fz) ∧ c'.size = c.size)
    (hrows : ∀ (k b : Nat), k ≠ r → σ[k]? = some (some b) → h[k]? ≠ some .dead → w'.heap[b]? = w.heap[b]?)
    (hs : ∀ b, s = some b → b < w'.heap.size ∧ (σ[r]? = some (some b) ∨ w.heap.size ≤ b)) :
    Inv w' σ' (h.set r (.buf n)) ∧ Step w σ h w' σ' (h.set r (.buf n)) := by
  have hrl : r < h.length := by
    apply Decidable.byContradiction
    intro hn
    rw [List.getElem?_eq_none (Nat.le_of_not_lt hn)] at hob; cases hob
  have hne : ∀ k, k ≠ r → (h.set r (.buf n))[k]? = h[k]? := fun k hk => by rw [ob_set, if_neg (fun e => hk e.1)]
  have heq : (h.set r (.buf n))[r]? = some (.buf n) := by rw [ob_set, if_pos ⟨rfl, hrl⟩]
  have hσne : ∀ k, k ≠ r → σ'[k]? = σ[k]? := fun k hk => by rw [hσ, if_neg hk]
  have hσeq : σ'[r]? = some s := by rw [hσ, if_pos rfl]
  have hmono : MonoH σ h σ' (h.set r (.buf n)) := by
    refine ⟨by simp, fun k hk hb => ?_, fun k j hk hj => ?_⟩
    · have hkr : k ≠ r := fun e => hb m (e ▸ hob)
      exact ⟨hσne k hkr, fun j => by rw [hne k hkr]; exact hb j⟩
    · by_cases e : k = r
      · subst e
        rw [heq] at hj
        cases hj
        exact .inr ⟨m, hmn, hob⟩
      · rw [hne k e] at hj
        exact .inl ⟨hj, hσne k e⟩
  have howns : ∀ b o, own σ' (h.set r (.buf n)) b o → own σ h b o ∨ w.heap.size ≤ b := by
    rintro b o ⟨k, k1, k2⟩
    by_cases e : k = r
    · subst e
      rw [hσeq] at k1
      rw [heq] at k2
      rcases (hs b (by simpa using k1)).2 with q | q
      · refine .inl ⟨k, q, .inr ⟨m, hob, ?_⟩⟩
        rcases k2 with ⟨_, e⟩ | ⟨j, e, hj⟩
        · cases e
        · cases e; omega
      · exact .inr q
    · rw [hσne k e] at k1
      rw [hne k e] at k2
      exact .inl ⟨k, k1, k2⟩
  have hst : Step w σ h w' σ' (h.set r (.buf n)) := ⟨hos, htape, hout, hsize, hblock, hcell, howns, hshape, hmono⟩
  refine ⟨⟨by simp [hσl, hi.len], fun k b hk => ?_, fun k cs hk => ?_, fun k k' b h1 h2 h3 h4 => ?_⟩, hst⟩
  · by_cases e : k = r
    · rw [e, hσeq] at hk
      exact (hs b (by simpa using hk)).1
    · rw [hσne k e] at hk
      have := hi.lt k b hk; omega
  · have e : k ≠ r := by rintro rfl; rw [heq] at hk; cases hk
    rw [hne k e] at hk
    have hkl : k < h.length := by
      apply Decidable.byContradiction
      intro hn
      rw [List.getElem?_eq_none (Nat.le_of_not_lt hn)] at hk; cases hk
    exact (hi.live k cs hk).step hst hkl (fun j hj => by rw [hk] at hj; cases hj) (fun b c e2 fz g1 g2 => by rw [hrows k b e g1 (by rw [hk]; simp)]; exact g2)
  · have key : ∀ k, k ≠ r → (h.set r (.buf n))[k]? ≠ some .dead → h[k]? ≠ some .dead := fun k hk hh => by rwa [hne k hk] at hh
    by_cases e1 : k = r
    · by_cases e2 : k' = r
      · rw [e1, e2]
      · exfalso
        rw [e1, hσeq] at h1
        rw [hσne k' e2] at h2
        rcases (hs b (by simpa using h1)).2 with q | q
        · exact e2 (hi.inj k' r b h2 q (key k' e2 h4) (by rw [hob]; simp))
        · have := hi.lt k' b h2; omega
    · by_cases e2 : k' = r
      · exfalso
        rw [e2, hσeq] at h2
        rw [hσne k e1] at h1
        rcases (hs b (by simpa using h2)).2 with q | q
        · exact e1 (hi.inj k r b h1 q (key k e1 h3) (by rw [hob]; simp))
        · have := hi.lt k b h1; omega
      · rw [hσne k e1] at h1
        rw [hσne k' e2] at h2
        exact hi.inj k k' b h1 h2 (key k e1 h3) (key k' e2 h4)

theorem app_buf (hi : Inv w σ h) {t ty : TypeId} {es news : List D} {t2 : Tok} {r : Nat} {v vx : Value} (hs : Rep w (own σ h) σ h (.slice es (.buf r (ti P (ti P t).elem).sz)) v) (hx : Rep w (own σ h) σ h (.slice news t2) vx) (hk : AppOk P t es news)
    (h1 : ∀ d, d ∈ flat news → cell1 d) (hob : h[r]? = some (.buf (es.length * (ti P (ti P t).elem).sz))) :
    ∃ u w' σ', (Builtin.append_ #[t, t] ty #[v, vx]).run P w = .ok u w' ∧ Inv w' σ' (h.set r (.buf ((es.length + news.length) * (ti P (ti P t).elem).sz))) ∧
      Step w σ h w' σ' (h.set r (.buf ((es.length + news.length) * (ti P (ti P t).elem).sz))) ∧
      Rep w' (own σ' (h.set r (.buf ((es.length + news.length) * (ti P (ti P t).elem).sz)))) σ' (h.set r (.buf ((es.length + news.length) * (ti P (ti P t).elem).sz))) (.slice (es ++ news) (.buf r (ti P (ti P t).elem).sz)) u := by
  have hfl : (flat (es ++ news)).length = (es.length + news.length) * (ti P (ti P t).elem).sz := by rw [flat_append, List.length_append, flat_length hk.k4, flat_length hk.k5, Nat.add_mul]
  obtain ⟨a, cap, olds, rfl, hcap, holds, hro, hmem⟩ := run_cells (P := P) hs hk.k4
  obtain ⟨a2, c2, vals, rfl, hcap2, hvals, hrv, _⟩ := run_cells (P := P) hx hk.k5
  have hrl : r < h.length := by
    apply Decidable.byContradiction
    intro hn
    rw [List.getElem?_eq_none (Nat.le_of_not_lt hn)] at hob; cases hob
  have heq : (h.set r (.buf ((es.length + news.length) * (ti P (ti P t).elem).sz)))[r]? = some (.buf ((es.length + news.length) * (ti P (ti P t).elem).sz)) := by rw [ob_set, if_pos ⟨rfl, hrl⟩]
  have hl0 : olds.size = es.length * (ti P (ti P t).elem).sz := by have := hro.1; rw [flat_length hk.k4] at this; simpa using this
  have hl1 : vals.size = news.length * (ti P (ti P t).elem).sz := by have := hrv.1; rw [flat_length hk.k5] at this; simpa using this
  have hl1' : vals.toList.length = news.length * (ti P (ti P t).elem).sz := by simpa using hl1
  have hp := hk.k3'
  by_cases hn : news = []
  · subst hn
    have hv0 : vals = #[] := by have := hrv.1; simp [flat] at this; exact this
    subst hv0
    have hrun := run_app_fits (P := P) (ty := ty) (w := w) hk (a := a) (cap := cap) (hvals w (fun _ => rfl)) (by simp; omega) (w' := w) (fun x _ => by simp [storeCells]) (fun _ => rfl)
    simp only [List.length_nil, Nat.add_zero, List.append_nil] at *
    rw [set_same hob]
    exact ⟨_, w, σ, hrun, hi, .refl w σ h, hs⟩
  · have hn0 : 0 < news.length := List.length_pos_iff.2 hn
    have hlt : es.length * (ti P (ti P t).elem).sz < (es.length + news.length) * (ti P (ti P t).elem).sz := Nat.mul_lt_mul_of_pos_right (by omega) hp
    by_cases hfit : es.length + news.length ≤ cap
    · have htok : TokOk w σ h r (ti P (ti P t).elem).sz (flat es).length es.length a cap := by cases hs with | slice _ _ _ _ vs _ _ _ ht _ _ => exact ht _ _ rfl
      obtain ⟨q1, q2, q3⟩ := htok
      rcases (q3 _ hob).2 q2 with q | ⟨b, c, e, fz, rfl, g2, g3, g4, g5⟩
      · omega
      · have hroom : es.length * (ti P (ti P t).elem).sz + vals.toList.length ≤ c.size := by
          rw [hl1', ← Nat.add_mul]
          exact Nat.le_trans (Nat.mul_le_mul_right _ hfit) g4
        have hput := run_puts (P := P) vals.toList w b (es.length * (ti P (ti P t).elem).sz) 0 c e fz g3 (by omega) (fun j _ j2 => g5 j (by
            rw [Nat.add_zero, hl1', ← Nat.add_mul] at j2
            exact Nat.lt_of_lt_of_le j2 (Nat.mul_le_mul_right _ hfit)))
          (ones_of_rep (w := w) (ow := own σ h) (σ := []) (h := []) hrv h1)
        have hrun := run_app_fits (P := P) (ty := ty) (w := w) hk (a := some ⟨b, 0, none⟩) (cap := cap) (hvals w (fun _ => rfl)) hfit (w' := World.puts w b (es.length * (ti P (ti P t).elem).sz) vals.toList)
          (fun x hx => by cases hx; rw [add_mk, Nat.zero_add]; simpa using hput) (fun e => nomatch e)
        obtain ⟨p1, p2, p3, p4, p5, c', p6, p7, p8⟩ := puts_spec vals.toList w b (es.length * (ti P (ti P t).elem).sz) c e fz g3
        have hownb : ∀ o, es.length * (ti P (ti P t).elem).sz ≤ o → own σ h b o := fun o ho => ⟨r, g2, .inr ⟨_, hob, ho⟩⟩
        obtain ⟨i1, i2⟩ := inv_set_buf (w' := World.puts w b (es.length * (ti P (ti P t).elem).sz) vals.toList) (s := some b) (σ' := σ) hi hob hlt (fun k => by split <;> simp_all) rfl p1 p2 p3 (by rw [p4]; exact Nat.le_refl _)
          (fun b' hb' ho => p5 b' (fun e => ho _ (e ▸ hownb _ (Nat.le_refl _))))
          (fun b' o v' ho hc => by
            by_cases e1 : b' = b
            · subst e1
              rw [cell_mk g3] at hc
              rw [cell_mk p6, p8 o, if_neg (fun e => ho (hownb o e.1))]
              exact hc
            · rw [cell_of_heap (p5 b' e1)]; exact hc)
          (fun b' c0 e0 f0 hb' => by
            by_cases e1 : b' = b
            · subst e1
              rw [g3] at hb'
              cases hb'
              exact ⟨c', p6, p7⟩
            · exact ⟨c0, by rw [p5 b' e1]; exact hb', rfl⟩)
          (fun k b' hkr hk1 hk2 => p5 b' (fun e => hkr (hi.inj k r b (e ▸ hk1) g2 hk2 (by rw [hob]; simp))))
          (fun b' hb' => by cases hb'; exact ⟨by rw [p4]; exact hi.lt r b g2, .inl g2⟩)
        refine ⟨_, _, σ, hrun, i1, i2, ?_⟩
        have hm := i2.monoW
        have hrep : RepL (World.puts w b (es.length * (ti P (ti P t).elem).sz) vals.toList) (own σ (h.set r (.buf ((es.length + news.length) * (ti P (ti P t).elem).sz)))) [] [] (flat (es ++ news)) (olds ++ vals).toList := by
          rw [flat_append, Array.toList_append]
          exact RepL.append ⟨hro.1, fun k h1 h2 => (hro.2 k h1 h2).pureW hm⟩ ⟨hrv.1, fun k h1 h2 => (hrv.2 k h1 h2).pureW hm⟩
        rw [show Value.slice (some ⟨b, 0, none⟩) (es.length + news.length) cap = Value.slice (some ⟨b, 0, none⟩) (es ++ news).length cap by simp]
        refine rep_slice_mk (c := c') (e := e) (fz := fz) p6 (by simpa using hk.k6) (by simpa using hfit) (fun e => nomatch e) (fun r' sz' e' => ?_) (fun k hk' => ?_) hrep (fun k hk' => ?_)
        · cases e'
          refine ⟨by simpa using hrl, by rw [hfl]; simp, fun n hn => ?_⟩
          rw [heq] at hn
          cases hn
          exact ⟨by omega, fun _ => .inr ⟨b, c', e, fz, rfl, g2, p6, by rw [p7]; exact g4, g5⟩⟩
        · rintro ⟨k', k1, k2⟩
          by_cases e1 : k' = r
          · rw [e1, heq] at k2
            rcases k2 with ⟨_, e⟩ | ⟨j, e, hj⟩
            · cases e
            · cases e; omega
          · rw [ob_set, if_neg (fun e => e1 e.1)] at k2
            have hd : h[k']? ≠ some .dead := by rcases k2 with ⟨_, e⟩ | ⟨_, e, _⟩ <;> rw [e] <;> simp
            exact e1 (hi.inj k' r b k1 g2 hd (by rw [hob]; simp))
        · rw [Array.toList_append, List.length_append, hl1', show olds.toList.length = es.length * (ti P (ti P t).elem).sz by simpa using hl0] at hk'
          rw [p8 k, Array.toList_append]
          by_cases e1 : k < es.length * (ti P (ti P t).elem).sz
          · rw [if_neg (by omega), List.getElem?_append_left (by simpa [hl0] using e1)]
            have q := hmem b 0 rfl k (by rw [q2]; exact e1)
            rw [Nat.zero_add, cell_mk g3] at q
            exact q
          · rw [if_pos (by omega), List.getElem?_append_right (by simp [hl0]; omega)]
            simp [hl0]
    · obtain ⟨newCap, rest, g1, g2, g3⟩ := run_app_grow (P := P) (ty := ty) hk (holds w.drew (fun _ => rfl)) (hvals w.drew (fun _ => rfl)) (by omega)
      have ha := adds_grow w (.cells (olds ++ vals ++ rest) (ti P t).elem)
      have hnew := heap_alloc_new w.drew (.cells (olds ++ vals ++ rest) (ti P t).elem)
      have hrl' : r < σ.length := by rw [hi.len]; exact hrl
      obtain ⟨i1, i2⟩ := inv_set_buf (w' := w.drew.alloc (.cells (olds ++ vals ++ rest) (ti P t).elem)) (s := some w.heap.size) (σ' := σ.set r (some w.heap.size)) hi hob hlt
        (fun k => by
          rw [List.getElem?_set]
          by_cases e : k = r
          · subst e; simp [hrl']
          · simp [e, Ne.symm e]) (by simp) ha.os ha.tape ha.output ha.size (fun b hb _ => ha.block b hb) (fun b o v' _ hc => by rw [cell_of_heap (ha.block b (lt_of_cell hc))]; exact hc)
        (fun b c e fz hb => ⟨c, by
          have hltb : b < w.heap.size := by
            apply Decidable.byContradiction
            intro hn
            rw [Array.getElem?_eq_none (by omega)] at hb
            cases hb
          rw [ha.block b hltb]; exact hb, rfl⟩)
        (fun k b _ hk1 _ => ha.block b (hi.lt k b hk1)) (fun b hb => by cases hb; exact ⟨by simp, .inr (Nat.le_refl _)⟩)
      refine ⟨_, _, _, g3, i1, i2, ?_⟩
      have hm := i2.monoW
      have hrep : RepL (w.drew.alloc (.cells (olds ++ vals ++ rest) (ti P t).elem)) (own (σ.set r (some w.heap.size)) (h.set r (.buf ((es.length + news.length) * (ti P (ti P t).elem).sz)))) [] [] (flat (es ++ news)) (olds ++ vals).toList := by
        rw [flat_append, Array.toList_append]
        exact RepL.append ⟨hro.1, fun k h1 h2 => (hro.2 k h1 h2).pureW hm⟩ ⟨hrv.1, fun k h1 h2 => (hrv.2 k h1 h2).pureW hm⟩
      rw [show Value.slice (some ⟨w.heap.size, 0, none⟩) (es.length + news.length) newCap = Value.slice (some ⟨w.heap.size, 0, none⟩) (es ++ news).length newCap by simp]
      have hσr : (σ.set r (some w.heap.size))[r]? = some (some w.heap.size) := by rw [List.getElem?_set]; simp [hrl']
      refine rep_slice_mk (c := olds ++ vals ++ rest) (e := (ti P t).elem) (fz := (0, 0)) hnew (by simpa using hk.k6) (by simpa using g1) (fun e => nomatch e) (fun r' sz' e' => ?_) (fun k hk' => ?_) hrep (fun k hk' => ?_)
      · cases e'
        refine ⟨by simpa using hrl, by rw [hfl]; simp, fun n hn => ?_⟩
        rw [heq] at hn
        cases hn
        refine ⟨by omega, fun _ => .inr ⟨w.heap.size, _, _, _, rfl, hσr, hnew, ?_, fun i _ => thawed0 i⟩⟩
        simp only [Array.size_append, hl0, hl1, g2]
        rw [← Nat.add_mul, ← Nat.add_mul]
        exact Nat.mul_le_mul_right _ (by omega)
      · rintro ⟨k', k1, k2⟩
        by_cases e1 : k' = r
        · rw [e1, heq] at k2
          rcases k2 with ⟨_, e⟩ | ⟨j, e, hj⟩
          · cases e
          · cases e; omega
        · rw [List.getElem?_set, if_neg (Ne.symm e1)] at k1
          have := hi.lt k' _ k1
          omega
      · simp only [Array.length_toList, Array.size_append] at hk'
        rw [Array.getElem?_append_left (by simp; omega), ← Array.getElem?_toList]
end
end Go.Av

/- Variables, stores, slice literals, as operations. -/
namespace Go.Av

section
variable {P : Program} {w : World} {σ : Sg} {h : Hp}

theorem alloc_sound (hi : Inv w σ h) {t : TypeId} (hz : (ti P t).zero.isEmpty = false) :
    ∃ v w' s, (Instr.alloc t true (.tuple #[])).run P w = .ok v w' ∧ Inv w' (σ ++ [s]) (h ++ [.row (ti P t).zero]) ∧ Step w σ h w' (σ ++ [s]) (h ++ [.row (ti P t).zero]) ∧
      Rep w' (own (σ ++ [s]) (h ++ [.row (ti P t).zero])) (σ ++ [s]) (h ++ [.row (ti P t).zero]) (.ptr h.length 0) v := by
  have hh : (ti P t).has = true := by
    unfold ti at *
    split
    · rfl
    · rename_i hn; split at hz
      · rename_i i d h1 h2; exact absurd h2 (hn i d h1)
      · simp at hz
  obtain ⟨i, d, e1, e2, e3⟩ := ti_has hh
  rw [e3] at hz ⊢
  simp only at hz ⊢
  cases hzz : i.zero with
  | none => simp [zeroOf, hzz] at hz
  | some z =>
    obtain ⟨g1, g2⟩ := alloc_row hi (cells := z.cells) (rest := #[]) (e := t) (rep_zero (w := w) (ow := own σ h) (σ := σ) (h := h) hzz)
    simp only [Array.append_empty] at g1 g2
    refine ⟨.pointer (some ⟨w.heap.size, 0, none⟩), _, _, by simp [Instr.alloc, zeroValue, typeInfo, e1, hzz, newVar, newRow], g1, g2, ?_⟩
    exact .ptr h.length 0 w.heap.size (by simp) (fun n hn => by rw [List.getElem?_append_right (Nat.le_refl _)] at hn; simp at hn) (by rw [List.getElem?_append_right (by rw [hi.len]; omega), hi.len]; simp)

theorem box_sound (hi : Inv w σ h) {t : TypeId} {d : D} {v : Value} (hd : Rep w (own σ h) σ h d v) (hs : solid d) :
    ∃ u w' s, (Instr.box t v).run P w = .ok u w' ∧ Inv w' (σ ++ [s]) (h ++ [.row d.cells]) ∧ Step w σ h w' (σ ++ [s]) (h ++ [.row d.cells]) ∧
      Rep w' (own (σ ++ [s]) (h ++ [.row d.cells])) (σ ++ [s]) (h ++ [.row d.cells]) (.ptr h.length 0) u := by
  obtain ⟨g1, g2⟩ := alloc_row hi (cells := v.cells) (rest := #[]) (e := t) (rep_cells hd hs)
  simp only [Array.append_empty] at g1 g2
  refine ⟨.pointer (some ⟨w.heap.size, 0, none⟩), _, _, by simp [Instr.box, newVar, newRow], g1, g2, ?_⟩
  exact .ptr h.length 0 w.heap.size (by simp) (fun n hn => by rw [List.getElem?_append_right (Nat.le_refl _)] at hn; simp at hn) (by rw [List.getElem?_append_right (by rw [hi.len]; omega), hi.len]; simp)

def ptrOf : D → Nat × Nat
  | .ptr r off => (r, off)
  | _ => (0, 0)
def isRef : D → Prop
  | .ptr _ _ => True
  | _ => False

def storeOk (P : Program) (t : TypeId) (h : Hp) (a x : D) : Prop :=
  isRef a ∧ solid x ∧ (ti P t).has = true ∧ x.cells.length = (ti P t).sz ∧ 0 < (ti P t).sz ∧ isRow (ob h (ptrOf a).1) ∧ (ptrOf a).2 + x.cells.length ≤ (rowOf (ob h (ptrOf a).1)).length ∧ ∀ d, d ∈ x.cells → cell1 d
def storeH (h : Hp) (a x : D) : Hp := h.set (ptrOf a).1 (.row (splice (rowOf (ob h (ptrOf a).1)) (ptrOf a).2 x.cells))

theorem store_sound (hi : Inv w σ h) {t : TypeId} {a x : D} {va vx : Value} (ha : Rep w (own σ h) σ h a va) (hx : Rep w (own σ h) σ h x vx) (hok : storeOk P t h a x) :
    ∃ w', (Instr.storeAt t va vx).run P w = .ok () w' ∧ Inv w' σ (storeH h a x) ∧ Step w σ h w' σ (storeH h a x) := by
  obtain ⟨h1, h2, h3, h4, h5, h6, h7, h8⟩ := hok
  cases ha with
  | ptr r off b hr hb hs =>
    simp only [ptrOf] at *
    have hcell := rep_cells hx h2
    obtain ⟨g1, g2, g3⟩ := store_row (P := P) hi (ob_row h6) h7 (by omega) hcell h8 hs
    refine ⟨_, ?_, g2, g3⟩
    have hsz : vx.cells.size = (ti P t).sz := by have := hcell.1; simp only [Array.length_toList] at this; omega
    simp [Instr.storeAt, Instr.sureAddr, storeVar, run_size w h3, hsz, g1]
  | _ => exact absurd h1 (by simp [isRef])

/-! ### Slice literals -/

theorem fill_all {sz : Nat} : ∀ (vs : List (Nat × Value)) (i : Nat) (cells : Array Value) (pre : List Value), (∀ (k : Nat) (hk : k < vs.length), (vs[k]).1 = i + k ∧ (vs[k]).2.cells.size = sz) →
    pre.length = i * sz → cells.toList.take (i * sz) = pre → cells.size = i * sz + vs.length * sz → ∃ cells', Instr.fill (fun j => some (j * sz, sz)) cells vs = some cells' ∧ cells'.toList = pre ++ vs.flatMap fun p => p.2.cells.toList
  | [], i, cells, pre, _, hp, ht, hs => ⟨cells, rfl, by
      simp only [List.flatMap_nil, List.append_nil, List.length_nil, Nat.zero_mul, Nat.add_zero] at *
      rw [← ht, List.take_of_length_le (by simp; omega)]⟩
  | (j, v) :: vs, i, cells, pre, hv, hp, ht, hs => by
    obtain ⟨e1, e2⟩ := hv 0 (by simp)
    simp only [List.getElem_cons_zero, Nat.add_zero] at e1 e2
    subst e1
    simp only [List.length_cons, Nat.succ_mul] at hs
    have hfo : (v.cells.zipIdx.foldl (fun cs (c, k) => cs.setIfInBounds (j * sz + k) c) cells) = (cells.toList.take (j * sz) ++ v.cells.toList ++ cells.toList.drop (j * sz + v.cells.toList.length)).toArray := by
      have := foldl_fill v.cells.toList (j * sz) 0 cells (by simp; omega)
      simp only [Nat.add_zero] at this
      rw [← this, ← Array.foldl_toList]
      simp
    have hlen : (cells.toList.take (j * sz) ++ v.cells.toList ++ cells.toList.drop (j * sz + v.cells.toList.length)).length = (j + 1) * sz + vs.length * sz := by
      simp only [List.length_append, List.length_take, List.length_drop, Array.length_toList, Nat.succ_mul]
      omega
    obtain ⟨cells', f1, f2⟩ := fill_all vs (j + 1) (cells.toList.take (j * sz) ++ v.cells.toList ++ cells.toList.drop (j * sz + v.cells.toList.length)).toArray (pre ++ v.cells.toList)
      (fun k hk => by
        obtain ⟨a1, a2⟩ := hv (k + 1) (by simpa using hk)
        simp only [List.getElem_cons_succ] at a1 a2
        exact ⟨by omega, a2⟩)
      (by simp only [List.length_append, Array.length_toList, Nat.succ_mul]; omega)
      (by
        rw [ht, List.take_append_of_le_length (by simp only [List.length_append, Array.length_toList, Nat.succ_mul]; omega), List.take_of_length_le (by simp only [List.length_append, Array.length_toList, Nat.succ_mul]; omega)])
      (by simpa using hlen)
    refine ⟨cells', ?_, by rw [f2]; simp⟩
    simp only [Instr.fill]
    rw [if_neg (by simp; omega), hfo]
    exact f1

def bsOk (P : Program) (t : TypeId) (n : Nat) (idx : List Nat) (es : List D) : Prop :=
  isSliceK (ti P t).kind ∧ (ti P (ti P t).elem).has = true ∧ 0 < (ti P (ti P t).elem).sz ∧ (ti P (ti P t).elem).zero.length = (ti P (ti P t).elem).sz ∧ idx = List.range n ∧ n * (ti P (ti P t).elem).sz ≤ 16777216 ∧
    AllSz (ti P (ti P t).elem).sz es ∧ (∀ e, e ∈ es → solid e) ∧ n ≤ lenMax

theorem run_bs {t : TypeId} {n : Nat} {vs : Array (Nat × Value)} {es : List D} {ow : Nat → Nat → Prop} (hok : bsOk P t n (vs.toList.map (·.1)) es) (hl : vs.toList.length = es.length) (hr : ∀ (k : Nat) (h1 : k < es.length) (h2 : k < vs.toList.length), Rep w ow σ h (es[k]) (vs.toList[k]).2) :
    ∃ cells : Array Value, (Instr.buildSlice t n vs).run P w = .ok (.slice (some ⟨w.heap.size, 0, none⟩) n n) (w.alloc (.cells cells (ti P t).elem)) ∧ RepL w ow σ h (flat es) cells.toList ∧ es.length = n := by
  obtain ⟨h1, h2, h3, h4, h5, h6, h7, h8, h9⟩ := hok
  have ht := ti_slice (slice_of h1)
  obtain ⟨i, z, e1, e2, e3, e4, e5⟩ := zero_of h2 h3 h4
  have hn : es.length = n := by
    have := congrArg List.length h5
    simp only [List.length_map, List.length_range] at this
    omega
  have hsz : ∀ (k : Nat) (hk : k < vs.toList.length), (vs.toList[k]).1 = 0 + k ∧ (vs.toList[k]).2.cells.size = (ti P (ti P t).elem).sz := by
    intro k hk
    refine ⟨?_, ?_⟩
    · have : (vs.toList.map (·.1))[k]? = some k := by rw [h5, List.getElem?_range (by omega)]
      rw [List.getElem?_map, List.getElem?_eq_getElem hk] at this
      simp at this
      simpa using this
    · have hk' : k < es.length := by omega
      have := (rep_cells (hr k hk' hk) (h8 _ (List.getElem_mem _))).1
      rw [h7 _ (List.getElem_mem _)] at this
      simpa using this
  have hzz : ∃ zero : Array Value, (n * (ti P (ti P t).elem).sz = 0 ∧ zero = #[]) ∨ (n * (ti P (ti P t).elem).sz ≠ 0 ∧ zero = z.cells) := by
    by_cases hz : n * (ti P (ti P t).elem).sz = 0
    · exact ⟨#[], .inl ⟨hz, rfl⟩⟩
    · exact ⟨z.cells, .inr ⟨hz, rfl⟩⟩
  obtain ⟨zero, hzz⟩ := hzz
  obtain ⟨cells', f1, f2⟩ := fill_all (sz := (ti P (ti P t).elem).sz) vs.toList 0 ((Array.range (n * (ti P (ti P t).elem).sz)).map (zero[· % zero.size]!)) [] hsz (by simp) (by simp) (by simp; rw [← hn, ← hl]; simp)
  refine ⟨cells', ?_, ?_, hn⟩
  · have hlt : ¬ (n * (ti P (ti P t).elem).sz > 2 ^ 24) := by omega
    have hzv : (zeroValue (ti P t).elem).run P w = .ok z w := by simp [zeroValue, typeInfo, e1, e4]
    rcases hzz with ⟨q1, q2⟩ | ⟨q1, q2⟩
    · simp only [Instr.buildSlice, Sem.run_bind, run_underlying ht, Result.andThen_ok, run_size w h2, hlt, if_false]
      rw [q2, q1] at f1
      simp only [q1, if_true, Sem.run_bind, Result.andThen_ok, Sem.run_pure, f1, newRow, Sem.run_bind, run_newObj, Result.andThen_ok, Sem.run_pure]
      rfl
    · simp only [Instr.buildSlice, Sem.run_bind, run_underlying ht, Result.andThen_ok, run_size w h2, hlt, if_false, q1, Sem.run_pure, hzv]
      rw [q2] at f1
      simp only [f1, newRow, Sem.run_bind, run_newObj, Result.andThen_ok, Sem.run_pure]
      rfl
  · rw [f2]
    simp only [List.nil_append]
    clear f1 f2 hzz h5 h6 h9 hsz hn
    generalize vs.toList = l at *
    revert l
    induction es with
    | nil => intro l hl _; cases l with | nil => exact RepL.nil | cons x l => simp at hl
    | cons e es ih =>
      intro l hl hr
      cases l with
      | nil => simp at hl
      | cons x l =>
        rw [flat_cons, List.flatMap_cons]
        refine RepL.append (rep_cells (hr 0 (by simp) (by simp)) (h8 e (by simp))) (ih (fun x hx => h7 x (by simp [hx])) (fun x hx => h8 x (by simp [hx])) l (by simpa using hl) (fun k k1 k2 => hr (k + 1) (by simpa using k1) (by simpa using k2)))

theorem bs_pure (hi : Inv w σ h) {t : TypeId} {n : Nat} {vs : Array (Nat × Value)} {es : List D} (hok : bsOk P t n (vs.toList.map (·.1)) es) (hl : vs.toList.length = es.length) (hr : ∀ (k : Nat) (h1 : k < es.length) (h2 : k < vs.toList.length), Rep w (own σ h) σ h (es[k]) (vs.toList[k]).2)
    (hp : ∀ e, e ∈ es → Cl 0 e) : ∃ v w', (Instr.buildSlice t n vs).run P w = .ok v w' ∧ Inv w' σ h ∧ Step w σ h w' σ h ∧ Rep w' (own σ h) σ h (.slice es .full) v := by
  have hpure : ∀ (k : Nat) (h1 : k < es.length) (h2 : k < vs.toList.length), Rep w (own σ h) [] [] (es[k]) (vs.toList[k]).2 := fun k h1 h2 =>
    (hr k h1 h2).move (n := 0) (fun _ _ q => q) (hp _ (List.getElem_mem _)) (Nat.zero_le _) (fun r hr => absurd hr (by omega))
  obtain ⟨cells, g1, g2, g3⟩ := run_bs (P := P) hok hl hpure
  obtain ⟨i1, i2⟩ := inv_same hi ((Adds.refl w).alloc (.cells cells (ti P t).elem))
  refine ⟨_, _, g1, i1, i2, ?_⟩
  have hm := i2.monoW
  rw [show Value.slice (some ⟨w.heap.size, 0, none⟩) n n = Value.slice (some ⟨w.heap.size, 0, none⟩) es.length n by rw [g3]]
  exact rep_slice_mk (heap_alloc_new w _) (by have := hok.2.2.2.2.2.2.2.2; omega) (by omega) (fun _ => by omega) (fun r sz e => nomatch e) (fun k _ ho => by have := inv_lt hi ho; omega)
    ⟨g2.1, fun k h1 h2 => (g2.2 k h1 h2).pureW hm⟩ (fun k hk => by simp)

theorem bs_row (hi : Inv w σ h) {t : TypeId} {n : Nat} {vs : Array (Nat × Value)} {es : List D} (hok : bsOk P t n (vs.toList.map (·.1)) es) (hl : vs.toList.length = es.length) (hr : ∀ (k : Nat) (h1 : k < es.length) (h2 : k < vs.toList.length), Rep w (own σ h) σ h (es[k]) (vs.toList[k]).2) (ag : Bool) :
    ∃ v w' s, (Instr.buildSlice t n vs).run P w = .ok v w' ∧ Inv w' (σ ++ [s]) (h ++ [.row (flat es)]) ∧ Step w σ h w' (σ ++ [s]) (h ++ [.row (flat es)]) ∧
      Rep w' (own (σ ++ [s]) (h ++ [.row (flat es)])) (σ ++ [s]) (h ++ [.row (flat es)]) (.vec h.length ag (ti P (ti P t).elem).sz 0 n) v := by
  obtain ⟨cells, g1, g2, g3⟩ := run_bs (P := P) hok hl hr
  obtain ⟨i1, i2⟩ := alloc_row hi (cells := cells) (rest := #[]) (e := (ti P t).elem) g2
  simp only [Array.append_empty] at i1 i2
  refine ⟨_, _, _, g1, i1, i2, ?_⟩
  have hcs : cells.size = n * (ti P (ti P t).elem).sz := by
    have := g2.1
    rw [flat_length hok.2.2.2.2.2.2.1, g3] at this
    simpa using this
  exact .vec h.length ag _ 0 n _ n hok.2.2.2.2.2.2.2.2 (Nat.le_refl _) (by simp) (fun k hk => by rw [List.getElem?_append_right (Nat.le_refl _)] at hk; simp at hk)
    (.inr ⟨w.heap.size, cells, _, (0, 0), by simp, by rw [List.getElem?_append_right (by rw [hi.len]; omega), hi.len]; simp, heap_alloc_new w _, by rw [hcs]; simp⟩)

/-! ### make -/

def mkOk (P : Program) (t : TypeId) (n c : D) : Prop :=
  isSliceK (ti P t).kind ∧ (ti P (ti P t).elem).has = true ∧ 0 < (ti P (ti P t).elem).sz ∧ (ti P (ti P t).elem).zero.length = (ti P (ti P t).elem).sz ∧ isInt n ∧ isInt c ∧ iof c = iof n ∧ 0 ≤ iof n ∧ iof n ≤ lenMax ∧
    (iof n).toNat * (ti P (ti P t).elem).bs ≤ 140737488355328
def zeros (z : List D) (n : Nat) : List D := (List.replicate n z).flatten

theorem map_zeros (z : Array Value) (hz : 0 < z.size) : ∀ n, ((Array.range (n * z.size)).map fun i => z[i % z.size]!).toList = (List.replicate n z.toList).flatten := by
  intro n
  apply List.ext_getElem?
  intro k
  simp only [Array.toList_map, Array.toList_range, List.getElem?_map]
  have hfl : ∀ (n k : Nat), ((List.replicate n z.toList).flatten)[k]? = if k < n * z.size then z.toList[k % z.size]? else none := by
    intro n
    induction n with
    | zero => intro k; simp
    | succ n ih =>
      intro k
      rw [List.replicate_succ, List.flatten_cons, List.getElem?_append, Array.length_toList]
      by_cases hk : k < z.size
      · rw [if_pos hk, if_pos (by rw [Nat.succ_mul]; omega), Nat.mod_eq_of_lt hk]
      · rw [if_neg hk, ih, Nat.succ_mul]
        by_cases hk2 : k - z.size < n * z.size
        · rw [if_pos hk2, if_pos (by omega)]
          congr 1
          rw [Nat.mod_eq_sub_mod (a := k) (b := z.size) (by omega)]
        · rw [if_neg hk2, if_neg (by omega)]
  rw [hfl]
  by_cases hk : k < n * z.size
  · rw [if_pos hk, List.getElem?_range hk]
    have hm := Nat.mod_lt k hz
    simp [hm]
  · rw [if_neg hk, List.getElem?_eq_none (by simp; omega)]
    rfl

theorem repL_zeros {ow : Nat → Nat → Prop} {z : List D} {v : List Value} (hz : RepL w ow σ h z v) : ∀ n, RepL w ow σ h (zeros z n) ((List.replicate n v).flatten)
  | 0 => RepL.nil
  | n + 1 => by
    simp only [zeros, List.replicate_succ, List.flatten_cons]
    exact hz.append (repL_zeros hz n)

theorem make_sound (hi : Inv w σ h) {t : TypeId} {n c : D} {vn vcap : Value} (hn : Rep w (own σ h) σ h n vn) (hc : Rep w (own σ h) σ h c vcap) (hok : mkOk P t n c) (ag : Bool) :
    ∃ v w' s, (Instr.makeSlice t vn vcap).run P w = .ok v w' ∧ Inv w' (σ ++ [s]) (h ++ [.row (zeros (ti P (ti P t).elem).zero (iof n).toNat)]) ∧ Step w σ h w' (σ ++ [s]) (h ++ [.row (zeros (ti P (ti P t).elem).zero (iof n).toNat)]) ∧
      Rep w' (own (σ ++ [s]) (h ++ [.row (zeros (ti P (ti P t).elem).zero (iof n).toNat)])) (σ ++ [s]) (h ++ [.row (zeros (ti P (ti P t).elem).zero (iof n).toNat)]) (.vec h.length ag (ti P (ti P t).elem).sz 0 (iof n).toNat) v := by
  obtain ⟨h1, h2, h3, h4, h5, h6, h7, h8, h9, h10⟩ := hok
  have ht := ti_slice (slice_of h1)
  obtain ⟨i, z, e1, e2, e3, e4, e5⟩ := zero_of h2 h3 h4
  obtain ⟨i', d', k1, k2, k3⟩ := ti_has h2
  have hii : i' = i := by rw [e1] at k1; exact (Option.some.inj k1).symm
  subst hii
  have hzr : RepL w (own σ h) σ h (ti P (ti P t).elem).zero z.cells.toList := by rw [k3]; exact rep_zero e4
  cases hn with
  | int kn m =>
    cases hc with
    | int kc m' =>
      simp only [iof] at *
      subst h7
      obtain ⟨m, rfl⟩ := Int.eq_ofNat_of_zero_le h8
      simp only [Int.toNat_natCast] at *
      have hm : m ≤ 1073741824 := by simp only [lenMax] at h9; omega
      have hw : IntKind.i64.wrap (m : Int) = m := by rw [IntKind.wrap_i64]; omega
      have hb : ¬ ((i'.bytes : Int) * (m : Int) > 281474976710656) := by
        have : i'.bytes * m ≤ 140737488355328 := by rw [e3, Nat.mul_comm]; exact h10
        have h2 : ((i'.bytes * m : Nat) : Int) ≤ 140737488355328 := by omega
        rw [Int.natCast_mul] at h2
        omega
      obtain ⟨g1, g2⟩ := alloc_row hi (cells := (((Array.range (m * (ti P (ti P t).elem).sz)).map fun i => z.cells[i % z.cells.size]!))) (rest := #[]) (e := (ti P t).elem) (cs := zeros (ti P (ti P t).elem).zero m) (by
        have := map_zeros z.cells (by omega) m
        rw [e5] at this
        rw [e5, this]
        exact repL_zeros hzr m)
      simp only [Array.append_empty] at g1 g2
      refine ⟨.slice (some ⟨w.heap.size, 0, none⟩) m m, _, _, ?_, g1, g2, ?_⟩
      · have hrun := run_make (P := P) w t _ i' z ht e1 e4 kn kc (m : Int) (m : Int) (by omega) (Int.le_refl _) (by omega) (by omega)
        rw [Int.toNat_natCast, e2] at hrun
        exact hrun
      · refine .vec h.length ag _ 0 m _ m (by simp only [lenMax]; omega) (Nat.le_refl _) (by simp) (fun k hk => by rw [List.getElem?_append_right (Nat.le_refl _)] at hk; simp at hk)
          (.inr ⟨w.heap.size, _, _, (0, 0), by simp, by rw [List.getElem?_append_right (by rw [hi.len]; omega), hi.len]; simp, heap_alloc_new w _, by simp⟩)
    | _ => exact absurd h6 (by simp [isInt])
  | _ => exact absurd h5 (by simp [isInt])
end
end Go.Av
